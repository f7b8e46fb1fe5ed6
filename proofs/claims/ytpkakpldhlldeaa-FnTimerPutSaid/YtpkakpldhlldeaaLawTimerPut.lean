/- For every code that timers and a timer are drawn from: a timer that was put is there once. No conditions. -/
import Derived.Test.YtpkakpldhlldeaaTimPut
import Derived.Test.YtpkakpldhlldeaaTimPutS
import Derived.Test.YtpkakpldhlldeaaTimPutDraw
import Derived.Test.YtpkakpldhlldeaaTimSame
import Derived.Test.YtpkakpldhlldeaaLift
namespace Go.Proofs.Ytpkakpldhlldeaa
open Go.ChangeShapes Go.WideShapes Go.ChangeAt Go.RowKit Go.Joins

theorem sameTimers_same (A B : Option Addr) (n c n' c' : Nat) (l : List R2) (w : World) (h : SlT w A n c l) (h' : SlT w B n' c' l) : Calls Try.prog 15 #[.slice A n c, .slice B n' c'] w fun e w' => e = .returned (.bool true) ∧ Below w.heap.size w w' :=
  (sameTimers_c A B n c n' c' l l w h h').mono fun e w' ⟨h1, h2⟩ => ⟨by rw [h1]; exact ret_bool (decide_eq_true rfl), h2⟩
theorem eql_tim (x x' : Int) (s s' : ByteArray) (w : World) : (binOp .eql 25 (.agg #[.int .i64 x, .string s]) (.agg #[.int .i64 x', .string s'])).run Try.prog w = .ok (.bool (eqT (x, s) (x', s'))) w := by
  have u3 := Try.underlying3
  have u9 := Try.underlying9
  have hS : Try.prog.underlying 25 = some (.struct (Try.prog.fieldsOf 25)) := by kernel_rfl
  have hp : Try.prog.stoodInHeld 25 = false := by kernel_rfl
  rw [run_eql_struct, show (10000 : Nat) = 9999 + 1 from rfl, run_equalIn_agg w 9999 25 _ _ hS hp]
  simp only [Program.fieldsOf, Try.underlying25]
  go_simp
  have e : eqT (x, s) (x', s') = ((x == x') && (s.toList == s'.toList)) := by
    rw [beqS]
    unfold eqT
    rw [Bool.eq_iff_iff]
    simp
  rw [e]
  by_cases h1 : s.toList = s'.toList <;> by_cases h2 : x = x' <;> simp [h1, h2]
def hasT (l : List R2) (x : R2) : Bool := l.any (fun r => eqT r x)
theorem hasT_next {l : List R2} {k : Nat} {r x : R2} (h : l[k]? = some r) : hasT (l.take (k + 1)) x = (hasT (l.take k) x || eqT r x) := by
  unfold hasT; rw [List.take_add_one, h]; simp
theorem hasT_mem {l : List R2} {x : R2} (h : x ∈ l) : hasT l x = true := by
  unfold hasT; rw [List.any_eq_true]; exact ⟨x, h, eqT_self x⟩
theorem ne_grown {b0 W : Nat} {v v' : Value} (h : v.ownBlock ≠ some b0) (hl : v'.ownBlock = v.ownBlock ∨ v'.ownBlock = some W) (hW : b0 < W) : v'.ownBlock ≠ some b0 := by
  rcases hl with e | e
  · rw [e]; exact h
  · rw [e]; simp; omega

set_option maxRecDepth 20000 in
set_option maxHeartbeats 10000000 in
theorem fnTimerPut_w (A : Option Addr) (n c : Nat) (zs : List Int) (w : World) (h : IsRow .u8 w A n c zs) : Calls Try.prog 11 #[.slice A n c] w fun e w' => e = .returned (.bool true) ∧ Below w.heap.size w w' := by
  obtain ⟨l1, l2⟩ := row_len h
  by_cases hn : 1048576 < n
  · go_enter Try.func11, Try.ntmps11
    go_wp2_with fail
    go_ret
    exact ⟨rfl, Below.refl _ _⟩
  have g1 : (n : Int) ≤ 1048576 := by omega
  clear hn
  go_enter Try.func11, Try.ntmps11
  go_wp2_with fail
  refine (drawTimerPut_c A n c zs _ h).mono ?_
  rintro e w1 ⟨B, m, d, l, x, s, rfl, hs, hm, h5, hs6, hW⟩
  have hz := sz5T_szT h5
  have hsz : s.size ≤ 9223372036854775807 := by omega
  obtain ⟨⟨fl, ok⟩, hR⟩ : ∃ R, putR l (x, s) = R := ⟨_, rfl⟩
  have HR := Lib.hid hR
  clear hR
  have kb := Blk.new w1 25 #[.int .i64 x, .string s]
  have hs := hs.al (.cells #[.int .i64 x, .string s] 25)
  have hW := bel_al hW (.cells #[.int .i64 x, .string s] 25)
  have ck := kb.cell
  go_wp2_with fail
  refine (implTimerPut_c _ _ _ l x s _ hs hz hsz (by omega)).mono ?_
  rintro e w2 ⟨F, fn, fc, rfl, hF, hb2⟩
  rw [HR.out] at hF ⊢
  clear ck
  have hs := hs.bel hb2 
  have kb := kb.bel hb2 
  have hW := bel_nx hW hb2
  have ck := kb.cell
  go_wp2_with fail
  refine (specTimerPut_c _ _ _ l x s _ hs hz hsz (by omega)).mono ?_
  rintro e w3 ⟨G, gn, gc, rfl, hG, hb3⟩
  rw [HR.out] at hG ⊢
  clear ck
  have hs := hs.bel hb3 
  have kb := kb.bel hb3 
  have hF := own_bel hF hb3
  have hW := bel_nx hW hb3
  have ck := kb.cell
  go_wp2_with fail
  clear ck
  refine (sameTimers_same _ _ _ _ _ _ fl _ (SlT.of_own hF) (SlT.of_own hG)).mono ?_
  rintro e w4 ⟨rfl, hb4⟩
  have hs := hs.bel hb4 
  have kb := kb.bel hb4 
  have hF := own_bel hF hb4
  have hG := own_bel hG hb4
  have hW := bel_nx hW hb4
  cases ok
  · go_wp2_with fail
    refine (sameTimers_same _ _ _ _ _ _ fl _ (SlT.of_own hF) (SlT.of_own hG)).mono ?_
    rintro e w5 ⟨rfl, hb5⟩
    have hs := hs.bel hb5 
    have kb := kb.bel hb5 
    have hF := own_bel hF hb5
    have hG := own_bel hG hb5
    have hW := bel_nx hW hb5
    go_wp2_with fail
    go_ret
    exact ⟨rfl, hW⟩
  have ck := kb.cell
  obtain ⟨hv, hmem, hwf, hlen, _, _⟩ := put_law HR.out
  have HV := Lib.hid hv
  have HMEM := Lib.hid (hasT_mem hmem)
  have HWF := Lib.hid hwf
  have hzf := timB_sz hv
  have hfl : fn = fl.length := own_count2 hF
  have hf8 : fn ≤ 8 := by rw [hfl]; exact (timB_iff.1 hv).1
  obtain ⟨yn, hyn⟩ : ∃ yn, (withF l s).length = yn := ⟨_, rfl⟩
  have hfy : fn = yn + 1 := by rw [hfl, hlen, ← hyn]
  have HY := Lib.hid hyn
  have HFL := Lib.hid hfl
  have HL := Lib.hid hs.len
  have HFY := Lib.hid hfy
  clear hv hmem hwf hlen hfl hyn ck hfy
  obtain ⟨i0, hi0, hz0, hz1, hz2⟩ := info_parts tim_info
  have hFs := SlT.of_own hF
  clear hF hG
  obtain ⟨w5, hw5⟩ : ∃ w5 : World, w5 = w4 := ⟨_, rfl⟩
  subst hw5
  have hWz := hW.size
  have hcm := hs.cap
  have hcx := hs.max
  have hfm := hFs.cap
  have hfx := hFs.max
  have hA := tims_new w5
  have hA := hA.alloc (.cells #[] 25)
  have hBn := ownsRow_base (B' := w5.heap.size) (tims_new (w5.alloc (.cells #[] 25))) (by simp)
  have hX := bel_al (bel_al (bel_refl w5) (.cells #[] 25)) (.cells #[] 25)
  simp only [World.alloc, Array.size_push] at hBn
  have hBn : ((w5.alloc (.cells #[] 25)).alloc (.cells #[] 25)).ownsRow w5.heap.size 25 2 (.slice (some ⟨w5.heap.size + 1, 0, none⟩) 0 0) 0 ([].flatMap encT) := hBn
  go_wp2_with fail
  go_loopw [9, 12] (fun av iv wr => ∃ (k : Nat) (out : List R2) (F1 : Option Addr) (an ac : Nat), k ≤ m ∧ iv = .int .i64 (k : Int) ∧ av = .slice F1 an ac ∧ an ≤ k ∧ wr.ownsRow w5.heap.size 25 2 (.slice F1 an ac) an (out.flatMap encT) ∧ Hid (out = withF (l.take k) s) ∧ (Value.slice F1 an ac).ownBlock ≠ some (w5.heap.size + 1) ∧ wr.ownsRow w5.heap.size 25 2 (.slice (some ⟨w5.heap.size + 1, 0, none⟩) 0 0) 0 ([].flatMap encT) ∧ Below w5.heap.size w5 wr ∧ w5.heap.size + 1 < wr.heap.size) (fun _ iv _ => m - (intOf iv).toNat)
  case atStart => exact ⟨0, [], _, _, _, Nat.zero_le _, rfl, rfl, by omega, hA, Lib.hid (by simp [withF]), by simp [Value.ownBlock], hBn, hX, by simp⟩
  case round =>
    obtain ⟨k, out, F1, an, ac, hk, rfl, rfl, han, ho, HE, hne, hb, hbr, hlt5⟩ := hrel
    have ck := (kb.bel hbr).cell
    have hkl := kb.lt
    have hsz := hbr.size
    by_cases hlt : k < m
    · obtain ⟨b, off, y, t, rfl, hx, hc0, hc1⟩ := SlT.get (hs.bel hbr) hlt
      have HX := Lib.hid hx
      clear hx
      have j0 : (0 : Int) ≤ (k : Int) := by omega
      have j1 : (k : Int) < (m : Int) := by omega
      by_cases hts : t = s
      · subst hts
        have exn : (t.toList != t.toList) = false := by simp
        have HN := Lib.hid (withF_out HX.out rfl)
        go_wp2_with fail
        go_quiet (fail)
        go_wp2_with fail
        go_roundw
        case rel => exact ⟨k + 1, out, F1, an, ac, by omega, by go_num, rfl, by omega, ho, Lib.hid (by rw [HN.out]; exact HE.out), hne, hb, bel_drN hbr _, hlt5⟩
        case measure => simp [intOf]; omega
      · have exy : (t.toList == s.toList) = false := beqS_no hts
        have exn : (t.toList != s.toList) = true := by rw [bne, exy]; rfl
        have HN := Lib.hid (withF_in HX.out hts)
        clear hts
        go_wp2_with fail
        go_quiet (fail)
        obtain ⟨wq, hwq⟩ : ∃ W0 : World, W0 = wr.drewN nq := ⟨_, rfl⟩
        rw [← hwq]
        have ho : wq.ownsRow w5.heap.size 25 2 (.slice F1 an ac) an (out.flatMap encT) := by rw [hwq]; exact ho
        have hb : wq.ownsRow w5.heap.size 25 2 (.slice (some ⟨w5.heap.size + 1, 0, none⟩) 0 0) 0 ([].flatMap encT) := by rw [hwq]; exact hb
        have hbr : Below w5.heap.size w5 wq := by rw [hwq]; exact bel_drN hbr _
        have hlt5 : w5.heap.size + 1 < wq.heap.size := by rw [hwq]; exact hlt5
        have hc0 : wq.cell? ⟨b, off + k * 2, none⟩ = some (.int .i64 y) := by rw [hwq]; exact hc0
        have hc1 : wq.cell? ⟨b, off + k * 2 + 1, none⟩ = some (.string t) := by rw [hwq]; exact hc1
        clear hwq ck
        go_wp2_with (at_builtin; refine wpList_append_sl (enc := encT) rfl _ _ 23 rfl w5.heap.size 25 i0 (.agg #[.int .i64 0, .string ByteArray.empty]) 2 24 Try.underlying23 hi0 hz0 hz1 hz2 rfl (by decide) _ an (out.flatMap encT) rfl (ho.alloc _) (some ⟨wq.heap.size, 0, none⟩) 1 1 [(y, t)] rfl (fun _ => rfl) (Sl.one (Blk.new _ _ _)) one_T (by unfold maxLen; omega) (by omega) (by simp; omega) ?_; intro v7 w7 ho7 hg7 hl7; obtain ⟨A7, c7, rfl⟩ := own_form ho7; rw [← List.flatMap_append] at ho7)
        have hg8 := (World.grownBy_alloc wq _ _).trans hg7
        go_roundw
        case rel => exact ⟨k + 1, out ++ [(y, t)], A7, an + 1, c7, by omega, by go_num, rfl, by omega, ho7, Lib.hid (by rw [HN.out, ← HE.out]), ne_grown hne hl7 (by simp; omega), hb.kept hg8 (.inr (fun e => hne e.symm)), hbr.grown hg8 hbr.size (fun j hj => (ho.lt j hj).1), by have := hg8.size; omega⟩
        case measure => simp [intOf]; omega
    · have hall := HE.out
      rw [List.take_of_length_le (by rw [HL.out]; omega)] at hall
      subst hall
      go_wp2_with fail
      go_loopw [10, 11, 13] (fun bv sv jv w2 => ∃ (k : Nat) (out : List R2) (some_ : Bool) (F2 : Option Addr) (bn bc : Nat), k ≤ fn ∧ jv = .int .i64 (k : Int) ∧ sv = .bool some_ ∧ bv = .slice F2 bn bc ∧ bn ≤ k ∧ w2.ownsRow w5.heap.size 25 2 (.slice F2 bn bc) bn (out.flatMap encT) ∧ Hid (out = withF (fl.take k) s ∧ some_ = hasT (fl.take k) (x, s)) ∧ (∀ q, (Value.slice F1 an ac).ownBlock = some q → (Value.slice F2 bn bc).ownBlock ≠ some q) ∧ w2.ownsRow w5.heap.size 25 2 (.slice F1 an ac) an ((withF l s).flatMap encT) ∧ Below w5.heap.size w5 w2) (fun _ _ jv _ => fn - (intOf jv).toNat)
      case atStart => exact ⟨0, [], false, _, _, _, Nat.zero_le _, rfl, rfl, rfl, by omega, hb, Lib.hid (by simp [withF, hasT]), fun q hq => by rw [hq] at hne; simpa [Value.ownBlock] using fun e => hne (by rw [e]), ho, hbr⟩
      case round =>
        obtain ⟨k2, out2, some_, F2, bn, bc, hk2, rfl, rfl, rfl, hbn, hRB, HE2, hne2, ha2, hbr2⟩ := hrel
        have ck := (kb.bel hbr2).cell
        have hsz2 := hbr2.size
        by_cases hlt2 : k2 < fn
        · obtain ⟨b, off, y, t, rfl, hx, hc0, hc1⟩ := SlT.get (hFs.bel hbr2) hlt2
          have HX := Lib.hid hx
          clear hx
          have j0 : (0 : Int) ≤ (k2 : Int) := by omega
          have j1 : (k2 : Int) < (fn : Int) := by omega
          have heq := fun wx => eql_tim y x t s wx
          have hgd := guard_tim
          obtain ⟨q, hq⟩ : ∃ q, eqT (y, t) (x, s) = q := ⟨_, rfl⟩
          rw [hq] at heq
          have HQ := Lib.hid hq
          clear hq
          have HNX := Lib.hid (hasT_next (x := (x, s)) HX.out)
          have hSN : Hid (some_ = true → hasT (fl.take (k2 + 1)) (x, s) = true) := Lib.hid (fun e => by rw [HNX.out, ← HE2.out.2, e]; rfl)
          have hSN2 : Hid (some_ = false → hasT (fl.take (k2 + 1)) (x, s) = q) := Lib.hid (fun e => by rw [HNX.out, ← HE2.out.2, e, HQ.out]; rfl)
          have hout2 := HE2.out.1
          have HO2 := Lib.hid hout2
          clear hout2 HNX HE2
          go_wp2_with fail
          go_cut [11] (fun v wc => v = .bool (hasT (fl.take (k2 + 1)) (x, s)) ∧ ∃ nq, wc = wr.drewN nq)
          case first =>
            cases some_
            · have HS2 := Lib.hid (hSN2.out rfl)
              clear hSN hSN2
              go_quiet (fail)
              go_wp2_with fail
              go_meet
              case rel => exact ⟨by rw [HS2.out], _, rfl⟩
            · have HS2 := Lib.hid (hSN.out rfl)
              clear hSN hSN2
              go_quiet (fail)
              go_wp2_with fail
              go_meet
              case rel => exact ⟨by rw [HS2.out], _, rfl⟩
          case rest =>
            obtain ⟨rfl, nq0, hwq⟩ := hcut
            obtain ⟨sv, hsv⟩ : ∃ sv, hasT (fl.take (k2 + 1)) (x, s) = sv := ⟨_, rfl⟩
            rw [hsv]
            have HSV := Lib.hid hsv
            have hRB : wc.ownsRow w5.heap.size 25 2 (.slice F2 bn bc) bn (out2.flatMap encT) := by rw [hwq]; exact hRB
            have ha2 : wc.ownsRow w5.heap.size 25 2 (.slice F1 an ac) an ((withF l s).flatMap encT) := by rw [hwq]; exact ha2
            have hbr2 : Below w5.heap.size w5 wc := by rw [hwq]; exact bel_drN hbr2 _
            have hc0 : wc.cell? ⟨b, off + k2 * 2, none⟩ = some (.int .i64 y) := by rw [hwq]; exact hc0
            have hc1 : wc.cell? ⟨b, off + k2 * 2 + 1, none⟩ = some (.string t) := by rw [hwq]; exact hc1
            clear hwq ck heq hgd hSN hSN2 hsv
            have ck := (kb.bel hbr2).cell
            have hsz2 := hbr2.size
            by_cases hts : t = s
            · subst hts
              have exn : (t.toList != t.toList) = false := by simp
              have HN := Lib.hid (withF_out HX.out rfl)
              go_wp2_with fail
              go_quiet (fail)
              go_wp2_with fail
              go_roundw
              case rel => exact ⟨k2 + 1, out2, sv, F2, bn, bc, by omega, by go_num, rfl, rfl, by omega, hRB, Lib.hid ⟨by rw [HN.out]; exact HO2.out, HSV.out.symm⟩, hne2, ha2, bel_drN hbr2 _⟩
              case measure => simp [intOf]; omega
            · have exy : (t.toList == s.toList) = false := beqS_no hts
              have exn : (t.toList != s.toList) = true := by rw [bne, exy]; rfl
              have HN := Lib.hid (withF_in HX.out hts)
              clear hts
              go_wp2_with fail
              go_quiet (fail)
              obtain ⟨wp, hwp⟩ : ∃ W0 : World, W0 = wc.drewN nq := ⟨_, rfl⟩
              rw [← hwp]
              have hRB : wp.ownsRow w5.heap.size 25 2 (.slice F2 bn bc) bn (out2.flatMap encT) := by rw [hwp]; exact hRB
              have ha2 : wp.ownsRow w5.heap.size 25 2 (.slice F1 an ac) an ((withF l s).flatMap encT) := by rw [hwp]; exact ha2
              have hbr2 : Below w5.heap.size w5 wp := by rw [hwp]; exact bel_drN hbr2 _
              have hc0 : wp.cell? ⟨b, off + k2 * 2, none⟩ = some (.int .i64 y) := by rw [hwp]; exact hc0
              have hc1 : wp.cell? ⟨b, off + k2 * 2 + 1, none⟩ = some (.string t) := by rw [hwp]; exact hc1
              have hsz2 := hbr2.size
              clear hwp ck
              go_wp2_with (at_builtin; refine wpList_append_sl (enc := encT) rfl _ _ 23 rfl w5.heap.size 25 i0 (.agg #[.int .i64 0, .string ByteArray.empty]) 2 24 Try.underlying23 hi0 hz0 hz1 hz2 rfl (by decide) _ bn (out2.flatMap encT) rfl (hRB.alloc _) (some ⟨wp.heap.size, 0, none⟩) 1 1 [(y, t)] rfl (fun _ => rfl) (Sl.one (Blk.new _ _ _)) one_T (by unfold maxLen; omega) (by omega) (by simp; omega) ?_; intro v7 w7 ho7 hg7 hl7; obtain ⟨A7, c7, rfl⟩ := own_form ho7; rw [← List.flatMap_append] at ho7)
              have hg8 := (World.grownBy_alloc wp _ _).trans hg7
              go_roundw
              case rel => exact ⟨k2 + 1, out2 ++ [(y, t)], sv, A7, bn + 1, c7, by omega, by go_num, rfl, rfl, by omega, ho7, Lib.hid ⟨by rw [HN.out, ← HO2.out], HSV.out.symm⟩, fun j hj => ne_grown (hne2 j hj) hl7 (by have := (ha2.lt j hj).2; simp; omega), ha2.kept hg8 (by rcases h0 : (Value.slice F1 an ac).ownBlock with _ | j; exact .inl rfl; exact .inr (fun e => hne2 j h0 e.symm)), hbr2.grown hg8 hbr2.size (fun j hj => (hRB.lt j hj).1)⟩
              case measure => simp [intOf]; omega
        · obtain ⟨e1, e2⟩ := HE2.out
          rw [List.take_of_length_le (by rw [← HFL.out]; omega)] at e1 e2
          rw [HMEM.out] at e2
          rw [HWF.out] at e1
          subst e1 e2
          have ebn : bn = yn := by rw [own_count2 hRB]; exact HY.out
          have hfy := HFY.out
          subst ebn
          subst hfy
          clear HE2 HE hbr ho hb hne ck
          go_wp2_with fail
          refine (implTimersValid_c _ _ _ fl _ (hFs.bel hbr2) hzf).mono ?_
          rintro e w8 ⟨rfl, hb8⟩
          rw [HV.out]
          have ha2 := own_bel ha2 hb8
          have hRB := own_bel hRB hb8
          have hbr2 := bel_nx hbr2 hb8
          go_wp2_with fail
          refine (sameTimers_same _ _ _ _ _ _ (withF l s) _ (SlT.of_own ha2) (SlT.of_own hRB)).mono ?_
          rintro e w9 ⟨rfl, hb9⟩
          have hbr2 := bel_nx hbr2 hb9
          have hew : IntKind.i64.wrap ((bn : Int) + 1) = (bn : Int) + 1 := by rw [IntKind.wrap_i64]; omega
          go_wp2_with fail
          go_ret
          exact ⟨ret_bool (by simp), bel_nx hW hbr2⟩

set_option maxRecDepth 100000 in
theorem fnTimerPut_l (os : Os) (started : os.Started) (H : Type) (enc : TypeId × Value → H) :
    ReturnsInHanded {} Try.checked os 11 .any (Rows.fnTimerPutSpec.pre6 enc Try.prog Try.f11 Rows.fnTimerPutRow.domain false) (Rows.fnTimerPutSpec.post enc Try.prog Try.f11 false true false false) := by
  refine returnsInHanded_of_change (C := Try.checked) own started (by kernel_rfl) Try.func11
    (ChangeSpec.witness6 (enc := enc) (C := Try.checked) false ⟨#[], #[.slice none 0 0], []⟩ 8 (by kernel_rfl) (by kernel_rfl) (by kernel_rfl) (by kernel_rfl)) ?_
  intro W base args ds gs before hval0 hW hcnd _
  have hval : ∀ (j : Nat) t v, Try.f11.params[j]? = some t → args[j]? = some v → Value.okWide Try.prog W .any base t v := hval0
  have hW' := hW
  obtain ⟨p, q, hA0, hV, rfl, hfz, hnd⟩ := hW
  have hA : DataW.TrodAll enc Try.prog W 0 (fun _ => true) true Try.f11.params.toList args.toList ds p := hA0
  rw [Try.params11] at hA hval
  obtain ⟨v0, vs0, d0, ds0, p0, q0, hargs, rfl, rfl, h0, r0⟩ := trodAll_cons hA
  obtain ⟨rfl, rfl, rfl⟩ := trodAll_nil r0
  obtain rfl : args = #[v0] := by cases args; simp_all
  obtain ⟨rfl, rfl⟩ := trodVars_none hV
  have k0 := h0
  have lt0 : ∀ x ∈ p0, x.block < W.heap.size := by obtain ⟨m, hm⟩ := k0; exact DataW.trod_lt m _ _ _ hm
  obtain ⟨A0, n0, c0, rfl⟩ := okWide_slice Try.underlying22 (hval 0 22 v0 rfl rfl)
  obtain ⟨z0, w0⟩ := bytes_row h0 (fun _ => rfl)
  clear hA0 hval0
  refine (fnTimerPut_w A0 n0 c0 z0 W w0).mono fun e W' ⟨he, bel⟩ => ?_
  subst he
  exact ⟨_, rfl, _, _, _, [], _, [], hW', trodAll_mk1 (shut_bool Try.underlying4 _), (trodAll_cons_mk (Below.trod laidOut (by kernel_rfl) (of_decide_eq_true (by kernel_rfl)) k0 bel lt0) trodAll_mk0), rfl, bel.frame _, fun h => by cases h⟩

theorem fnTimerPut_holds : Rows.FnTimerPutSaid :=
  OpenClaim.holds_of_wide 11 Try.f11 rfl rfl rfl rfl rfl rfl rfl ⟨rfl, rfl, rfl, rfl, rfl⟩ rfl rfl rfl rfl rfl (by kernel_rfl) Try.func11 (by kernel_rfl)
    (of_decide_eq_true (by kernel_rfl)) (by unfold Func.isWrapper; first | (rw [if_pos (by decide +kernel)]; kernel_rfl) | (rw [if_neg (by decide +kernel)]; exact ⟨rfl, rfl⟩))
    (fun os started H enc _ => fnTimerPut_l os started H enc)
#print axioms fnTimerPut_holds

end Go.Proofs.Ytpkakpldhlldeaa
