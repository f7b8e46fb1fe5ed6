/- For every code that a flow is drawn from, and every length: in a safe flow nothing stays. No conditions. -/
import Derived.Test.YtdchfiiaollheaaSafePlain2
import Derived.Test.YtdchfiiaollheaaSafeDraw
import Derived.Test.YtdchfiiaollheaaSafeS
import Derived.Test.YtdchfiiaollheaaSafeI
import Derived.Test.YtdchfiiaollheaaRunImpl2
import Derived.Test.YtdchfiiaollheaaLift
namespace Go.Proofs.Ytdchfiiaollheaa
open Go.ChangeShapes Go.WideShapes Go.ChangeAt Go.RowKit Go.Joins

set_option maxRecDepth 20000 in
set_option maxHeartbeats 8000000 in
theorem fnUndoSafe_w (A A' : Option Addr) (n c n' c' : Nat) (zs zs' : List Int) (w : World) (h : IsRow .u8 w A n c zs) (h' : IsRow .u8 w A' n' c' zs') : Calls Try.prog 10 #[.slice A n c, .slice A' n' c'] w fun e w' => e = .returned (.bool true) ∧ Below w.heap.size w w' := by
  obtain ⟨r1, r2⟩ := row_len h
  obtain ⟨r3, r4⟩ := row_len h'
  by_cases hn : 1048576 < n
  · have g1 : (1048576 : Int) < (n : Int) := by omega
    go_enter Try.func10, Try.ntmps10
    go_wp2_with fail
    go_ret
    exact ⟨rfl, Below.refl _ _⟩
  have g1 : (n : Int) ≤ 1048576 := by omega
  clear hn
  by_cases hn : 1048576 < n'
  · have g2 : (1048576 : Int) < (n' : Int) := by omega
    go_enter Try.func10, Try.ntmps10
    go_wp2_with fail
    go_ret
    exact ⟨rfl, Below.refl _ _⟩
  have g2 : (n' : Int) ≤ 1048576 := by omega
  clear hn
  go_enter Try.func10, Try.ntmps10
  go_wp2_with fail
  refine (drawUndoSafe_c A n c zs _ h).mono ?_
  rintro e w1 ⟨v, F, m, d, l, rfl, hf, h5, hm1, hm6, hW⟩
  have hz := h5.szP
  have hm2 : m ≤ 1048576 := by omega
  have HL := Lib.hid hf.len
  have kf := Blk.new w1 25 #[.int .i64 v, .slice F m d]
  have hf := hf.al (.cells #[.int .i64 v, .slice F m d] 25)
  have hW := bel_al hW (.cells #[.int .i64 v, .slice F m d] 25)
  obtain ⟨bs, hbs⟩ : ∃ x, safeB v l = x := ⟨_, rfl⟩
  have HS := Lib.hid hbs
  clear hbs
  have ebb : (bs != bs) = false := by cases bs <;> rfl
  have ebe : (bs == bs) = true := by cases bs <;> rfl
  have cf := kf.cell
  go_wp2_with fail
  refine (implUndoSafe_c v F m d l _ hf hz).mono ?_
  rintro e w2 ⟨rfl, hb2⟩
  rw [HS.out]
  have kf := kf.bel hb2
  have hf := hf.bel hb2
  have hW := bel_nx hW hb2
  have cf := kf.cell
  go_wp2_with fail
  refine (specUndoSafe_c v F m d l _ hf hz hm2).mono ?_
  rintro e w3 ⟨rfl, hb3⟩
  rw [HS.out]
  have kf := kf.bel hb3
  have hf := hf.bel hb3
  have hW := bel_nx hW hb3
  have cf := kf.cell
  cases bs
  · go_wp2_with fail
    go_ret
    exact ⟨by simp, hW⟩
  have HV := Lib.hid (safeB_iff.1 HS.out).1
  go_wp2_with fail
  refine (flowOrder_y v F m d l _ hf hz hm2 HV.out).mono ?_
  rintro e w4 ⟨O, on, oc, rfl, hO, hb4⟩
  have hon := own_countS hO
  rw [(ord_of HV.out).len, HL.out] at hon
  have hon := hon.symm
  subst hon
  have kf := kf.bel hb4
  have hf := hf.bel hb4
  have hW := bel_nx hW hb4
  have cf := kf.cell
  go_wp2_with fail
  refine (runNew_y v F m d l _ hf hz HV.out).mono ?_
  rintro e w5 ⟨rfl, hb5⟩
  have hO5 := own_bel hO hb5
  have kf := kf.bel hb5
  have hf := hf.bel hb5
  have hW := bel_nx hW hb5
  have cf := kf.cell
  have hOc := (SlS.of_own hO5).cap
  have hOm := (SlS.of_own hO5).max
  obtain ⟨k, hk⟩ : ∃ k, k = n' % m := ⟨_, rfl⟩
  have hkn : k < m := by rw [hk]; exact Nat.mod_lt _ (by omega)
  have hko : (n' : Int).tmod (m : Int) = (k : Int) := by rw [hk]; rfl
  have h0n : ((m : Int) == 0) = false := by simp; omega
  have HK := Lib.hid hk
  clear hk
  obtain ⟨K, hKq⟩ : ∃ K, K = w5.heap.size := ⟨_, rfl⟩
  have kK := Blk.new w5 40 runZ
  have hT0 := bel_al (bel_refl w5) (.cells runZ 40)
  have hlF := kf.lt
  have nFK : w1.heap.size ≠ K := by omega
  go_wp2_with fail
  rw [← hKq] at kK ⊢
  have HKq := Lib.hid hKq
  have hK5 : w5.heap.size ≤ K := by omega
  clear hKq
  go_loopw [12] (fun iv wr => ∃ (i dc : Nat) (D : Option Addr), i ≤ k ∧ iv = .int .i64 (i : Int) ∧ Blk wr K 40 #[.int .i64 0, .slice D i dc] ∧ wr.ownsRow w5.heap.size 9 1 (.slice D i dc) i (((orderP l).take i).map Value.string) ∧ Below w5.heap.size w5 wr) (fun iv _ => k - (intOf iv).toNat)
  case atStart => exact ⟨0, 0, none, Nat.zero_le _, rfl, kK, World.ownsRow_nil _ _ _ _, hT0⟩
  case round =>
    obtain ⟨i, dc, D, hi, rfl, kL, hD, hTr⟩ := hrel
    have kfR := kf.bel hTr
    have hfR := hf.bel hTr
    have hDR := SlS.of_own hD
    have hszr := hTr.size
    have hlK := kL.lt
    have cfR := kfR.cell
    have cL := kL.cell
    clear cf
    by_cases hlt : i < k
    · obtain ⟨bx, offx, x, hA, hx, hcx⟩ := SlS.get (SlS.of_own (own_bel hO5 hTr)) (i := i) (by omega)
      subst hA
      have HRB := Lib.hid (order_run HV.out (i := i) (by rw [HL.out]; omega))
      have HRX := Lib.hid (order_ready HV.out hx)
      have HTK : Hid ((orderP l).take i ++ [x] = (orderP l).take (i + 1)) := Lib.hid (take_snocG hx).symm
      clear hx
      have i0 : (0 : Int) ≤ (i : Int) := by omega
      have i1 : (i : Int) < (m : Int) := by omega
      have i2 : (i : Int) < (k : Int) := by omega
      have a0 : wr.cell? ⟨w1.heap.size, 0, none⟩ = some (.int .i64 v) := kfR.cell 0
      have a1 : wr.cell? ⟨w1.heap.size, 1, none⟩ = some (.slice F m d) := kfR.cell 1
      have a2 : wr.cell? ⟨K, 0, none⟩ = some (.int .i64 0) := kL.cell 0
      have a3 : wr.cell? ⟨K, 1, none⟩ = some (.slice D i dc) := kL.cell 1
      have nF : w1.heap.size ≠ wr.heap.size := by omega
      have nK : K ≠ wr.heap.size := by omega
      have nX : bx ≠ wr.heap.size := Nat.ne_of_lt (cell_some_lt (w := wr) (p := ⟨bx, offx + i, none⟩) (by rw [hcx]; rfl))
      have xs : wr.cell? ⟨w1.heap.size, 0, none⟩ = some (.int .i64 v) ∧ wr.cell? ⟨w1.heap.size, 1, none⟩ = some (.slice F m d) ∧ wr.cell? ⟨K, 0, none⟩ = some (.int .i64 0) ∧ wr.cell? ⟨K, 1, none⟩ = some (.slice D i dc) ∧ wr.cell? ⟨bx, offx + i, none⟩ = some (.string x) := ⟨a0, a1, a2, a3, hcx⟩
      have xsd : wr.drew.cell? ⟨w1.heap.size, 0, none⟩ = some (.int .i64 v) ∧ wr.drew.cell? ⟨w1.heap.size, 1, none⟩ = some (.slice F m d) ∧ wr.drew.cell? ⟨K, 0, none⟩ = some (.int .i64 0) ∧ wr.drew.cell? ⟨K, 1, none⟩ = some (.slice D i dc) ∧ wr.drew.cell? ⟨bx, offx + i, none⟩ = some (.string x) := xs
      have xt : (wr.alloc (.cells #[.int .i64 0, .slice none 0 0] 40)).drew.cell? ⟨w1.heap.size, 0, none⟩ = some (.int .i64 v) ∧ (wr.alloc (.cells #[.int .i64 0, .slice none 0 0] 40)).drew.cell? ⟨w1.heap.size, 1, none⟩ = some (.slice F m d) ∧ (wr.alloc (.cells #[.int .i64 0, .slice none 0 0] 40)).drew.cell? ⟨K, 0, none⟩ = some (.int .i64 0) ∧ (wr.alloc (.cells #[.int .i64 0, .slice none 0 0] 40)).drew.cell? ⟨K, 1, none⟩ = some (.slice D i dc) ∧ (wr.alloc (.cells #[.int .i64 0, .slice none 0 0] 40)).drew.cell? ⟨bx, offx + i, none⟩ = some (.string x) := ⟨cell_al xs.1 _, cell_al xs.2.1 _, cell_al xs.2.2.1 _, cell_al xs.2.2.2.1 _, cell_al xs.2.2.2.2 _⟩
      clear cfR cL
      go_upto_region 14 with fail
      go_cut [13, 14] (fun pv bv wc => ∃ (g : Nat) (Y : Option Addr) (yc : Nat), pv = .pointer (some ⟨g, 0, none⟩) ∧ bv = .bool true ∧ Blk wc g 40 #[.int .i64 0, .slice Y (i + 1) yc] ∧ wc.ownsRow wr.heap.size 9 1 (.slice Y (i + 1) yc) (i + 1) (((orderP l).take (i + 1)).map Value.string) ∧ wr.heap.size ≤ g ∧ Below wr.heap.size wr wc)
      case first =>
        go_region_held3 (fun w' => w'.cell? ⟨w1.heap.size, 0, none⟩ = some (.int .i64 v) ∧ w'.cell? ⟨w1.heap.size, 1, none⟩ = some (.slice F m d) ∧ w'.cell? ⟨K, 0, none⟩ = some (.int .i64 0) ∧ w'.cell? ⟨K, 1, none⟩ = some (.slice D i dc) ∧ w'.cell? ⟨bx, offx + i, none⟩ = some (.string x)) (first | with_reducible exact xsd | with_reducible exact xt | with_reducible exact ys | with_reducible exact ⟨cell_al ys.1 _, cell_al ys.2.1 _, cell_al ys.2.2.1 _, cell_al ys.2.2.2.1 _, cell_al ys.2.2.2.2 _⟩ | with_reducible exact ⟨cell_st (cell_st ys.1 nF _) nF _, cell_st (cell_st ys.2.1 nF _) nF _, cell_st (cell_st ys.2.2.1 nK _) nK _, cell_st (cell_st ys.2.2.2.1 nK _) nK _, cell_st (cell_st ys.2.2.2.2 nX _) nX _⟩) ((go_at_call 39; refine (runDo_z v F m d l D i dc ((orderP l).take i) ((orderP l).take (i + 1)) x _ (by first | with_reducible exact hfR.dr | with_reducible exact (hfR.al _).dr) hz hm2 (by first | with_reducible exact hDR.dr | with_reducible exact (hDR.al _).dr) (by omega) HRB.out HRX.out (by omega) HTK.out).mono ?_; rintro e w7 ⟨Y7, yc7, rfl, hY7, hb7⟩; have hB7 : Below wr.heap.size wr w7 := (by first | with_reducible exact bel_nx (bel_dr (bel_refl wr)) hb7 | with_reducible exact bel_nx (bel_dr (bel_al (bel_refl wr) _)) hb7); have ys : w7.cell? ⟨w1.heap.size, 0, none⟩ = some (.int .i64 v) ∧ w7.cell? ⟨w1.heap.size, 1, none⟩ = some (.slice F m d) ∧ w7.cell? ⟨K, 0, none⟩ = some (.int .i64 0) ∧ w7.cell? ⟨K, 1, none⟩ = some (.slice D i dc) ∧ w7.cell? ⟨bx, offx + i, none⟩ = some (.string x) := ⟨cell_on hB7 a0, cell_on hB7 a1, cell_on hB7 a2, cell_on hB7 a3, cell_on hB7 hcx⟩; (first | (with_reducible have kS := Blk.bel (Blk.dr (Blk.new wr 40 runZ)) hb7; have cS := kS.cell; have fS := kS.frozen) | skip)))
        all_goals
          go_wp2_with fail
          go_meet
          go_light
          first
            | exact ⟨w7.heap.size, Y7, yc7, rfl, rfl, Blk.new _ _ _, ownsRow_base (hY7.alloc _) (Nat.le_refl _), hB7.size, bel_al hB7 _⟩
            | exact ⟨wr.heap.size, Y7, yc7, rfl, rfl, (kS.set_ 0 _).set_ 1 _, ownsRow_base (own_cell2 hY7 kS (by decide)) (by simp), Nat.le_refl _, bel_set (bel_set hB7 (Nat.le_refl _) _) (Nat.le_refl _) _⟩
      case rest =>
        obtain ⟨g, Y, yc, rfl, rfl, kN, hY, hgr, hbc⟩ := hcut
        have kKc := kL.bel hbc
        have cN := kN.cell
        have cK := kKc.cell
        have fK := kKc.frozen
        go_wp2_with fail
        go_roundw
        case rel =>
          go_light
          exact ⟨i + 1, yc, Y, by omega, by go_num, (kKc.set_ 0 (.int .i64 0)).set_ 1 (.slice Y (i + 1) yc), own_cell2 (ownsRow_base hY hszr) kKc (by decide), ((bel_nx hTr hbc).setCell hK5 _).setCell hK5 _⟩
        case measure => simp [intOf]; omega
    · have hik : i = k := by omega
      subst hik
      have HLF := Lib.hid (safe_left HS.out (k := i) (by rw [HL.out]; exact hkn))
      go_wp2_with fail
      refine (implUndoLeft_c v F m d l 0 D i dc ((orderP l).take i) _ hfR hz hm2 hDR (by omega)).mono ?_
      rintro e w8 ⟨E, en, ec, rfl, hE, hb8⟩
      rw [HLF.out] at hE
      have hen : en = 0 := own_countS hE
      subst hen
      go_wp2_with fail
      go_ret
      exact ⟨rfl, bel_nx (bel_nx hW hTr) hb8⟩

set_option maxRecDepth 100000 in
theorem fnUndoSafe_l (os : Os) (started : os.Started) (H : Type) (enc : TypeId × Value → H) :
    ReturnsInHanded {} Try.checked os 10 .any (Rows.fnUndoSafeSpec.pre6 enc Try.prog Try.f10 Rows.fnUndoSafeRow.domain false) (Rows.fnUndoSafeSpec.post enc Try.prog Try.f10 false true false false) := by
  refine returnsInHanded_of_change (C := Try.checked) own started (by kernel_rfl) Try.func10
    (ChangeSpec.witness6 (enc := enc) (C := Try.checked) false ⟨#[], #[.slice none 0 0, .slice none 0 0], []⟩ 8 (by kernel_rfl) (by kernel_rfl) (by kernel_rfl) (by kernel_rfl)) ?_
  intro W base args ds gs before hval0 hW hcnd _
  have hval : ∀ (j : Nat) t v, Try.f10.params[j]? = some t → args[j]? = some v → Value.okWide Try.prog W .any base t v := hval0
  have hW' := hW
  obtain ⟨p, q, hA0, hV, rfl, hfz, hnd⟩ := hW
  have hA : DataW.TrodAll enc Try.prog W 0 (fun _ => true) true Try.f10.params.toList args.toList ds p := hA0
  rw [Try.params10] at hA hval
  obtain ⟨v0, vs0, d0, ds0, p0, q0, hargs, rfl, rfl, h0, r0⟩ := trodAll_cons hA
  obtain ⟨v1, vs1, d1, ds1, p1, q1, rfl, rfl, rfl, h1, r1⟩ := trodAll_cons r0
  obtain ⟨rfl, rfl, rfl⟩ := trodAll_nil r1
  obtain rfl : args = #[v0, v1] := by cases args; simp_all
  obtain ⟨rfl, rfl⟩ := trodVars_none hV
  have k0 := h0
  have lt0 : ∀ x ∈ p0, x.block < W.heap.size := by obtain ⟨m, hm⟩ := k0; exact DataW.trod_lt m _ _ _ hm
  obtain ⟨A0, n0, c0, rfl⟩ := okWide_slice Try.underlying22 (hval 0 22 v0 rfl rfl)
  obtain ⟨z0, w0⟩ := bytes_row h0 (fun _ => rfl)
  have k1 := h1
  have lt1 : ∀ x ∈ p1, x.block < W.heap.size := by obtain ⟨m, hm⟩ := k1; exact DataW.trod_lt m _ _ _ hm
  obtain ⟨A1, n1, c1, rfl⟩ := okWide_slice Try.underlying22 (hval 1 22 v1 rfl rfl)
  obtain ⟨z1, w1⟩ := bytes_row h1 (fun _ => rfl)
  clear hA0 hval0
  refine (fnUndoSafe_w A0 A1 n0 c0 n1 c1 z0 z1 W w0 w1).mono fun e W' ⟨he, bel⟩ => ?_
  subst he
  exact ⟨_, rfl, _, _, _, [], _, [], hW', trodAll_mk1 (shut_bool Try.underlying4 _), (trodAll_cons_mk (Below.trod laidOut (by kernel_rfl) (of_decide_eq_true (by kernel_rfl)) k0 bel lt0) (trodAll_cons_mk (Below.trod laidOut (by kernel_rfl) (of_decide_eq_true (by kernel_rfl)) k1 bel lt1) trodAll_mk0)), rfl, bel.frame _, fun h => by cases h⟩

theorem fnUndoSafe_holds : Rows.FnUndoSafeSaid :=
  OpenClaim.holds_of_wide 10 Try.f10 rfl rfl rfl rfl rfl rfl rfl ⟨rfl, rfl, rfl, rfl, rfl⟩ rfl rfl rfl rfl rfl (by kernel_rfl) Try.func10 (by kernel_rfl)
    (of_decide_eq_true (by kernel_rfl)) (by unfold Func.isWrapper; first | (rw [if_pos (by decide +kernel)]; kernel_rfl) | (rw [if_neg (by decide +kernel)]; exact ⟨rfl, rfl⟩))
    (fun os started H enc _ => fnUndoSafe_l os started H enc)
#print axioms fnUndoSafe_holds

end Go.Proofs.Ytdchfiiaollheaa
