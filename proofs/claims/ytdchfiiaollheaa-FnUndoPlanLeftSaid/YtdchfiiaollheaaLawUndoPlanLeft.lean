/- For every code that a flow and a run are drawn from: what is not undone stays. No conditions. -/
import Derived.Test.YtdchfiiaollheaaUndoPlain
import Derived.Test.YtdchfiiaollheaaRunDraw4
import Derived.Test.YtdchfiiaollheaaLift
namespace Go.Proofs.Ytdchfiiaollheaa
open Go.ChangeShapes Go.WideShapes Go.ChangeAt Go.RowKit Go.Joins

set_option maxRecDepth 20000 in
set_option maxHeartbeats 8000000 in
theorem fnUndoPlanLeft_w (A : Option Addr) (n c : Nat) (zs : List Int) (w : World) (h : IsRow .u8 w A n c zs) : Calls Try.prog 8 #[.slice A n c] w fun e w' => e = .returned (.bool true) ∧ Below w.heap.size w w' := by
  obtain ⟨r1, r2⟩ := row_len h
  by_cases hn : 1048576 < n
  · go_enter Try.func8, Try.ntmps8
    go_wp2_with fail
    go_ret
    exact ⟨rfl, Below.refl _ _⟩
  have g1 : (n : Int) ≤ 1048576 := by omega
  clear hn
  go_enter Try.func8, Try.ntmps8
  go_wp2_with fail
  refine (drawUndoPlan_c A n c zs _ h).mono ?_
  rintro e w1 ⟨v, F, m, d, l, st, P, pn, pc, done, rfl, hf, h5, hm, hd, hpn, hW⟩
  have hz := h5.szP
  have hm2 : m ≤ 1048576 := by omega
  have hpn2 : pn ≤ 1048576 := by omega
  have hlm := Lib.hid hf.len
  have hld := Lib.hid hd.len
  have kf := (Blk.new w1 25 #[.int .i64 v, .slice F m d]).al (.cells #[.int .i64 st, .slice P pn pc] 40)
  have kr := Blk.new (w1.alloc (.cells #[.int .i64 v, .slice F m d] 25)) 40 #[.int .i64 st, .slice P pn pc]
  rw [show (w1.alloc (.cells #[.int .i64 v, .slice F m d] 25)).heap.size = w1.heap.size + 1 by simp] at kr
  have hf := (hf.al (.cells #[.int .i64 v, .slice F m d] 25)).al (.cells #[.int .i64 st, .slice P pn pc] 40)
  have hd := (hd.al (.cells #[.int .i64 v, .slice F m d] 25)).al (.cells #[.int .i64 st, .slice P pn pc] 40)
  have hW := bel_al (bel_al hW (.cells #[.int .i64 v, .slice F m d] 25)) (.cells #[.int .i64 st, .slice P pn pc] 40)
  have c_kf := kf.cell
  have c_kr := kr.cell
  go_wp2_with fail
  refine (implUndoPlan_c v F m d l st P pn pc done _ hf hz hm2 hd hpn2).mono ?_
  rintro e u1 ⟨D, dn, dc, rfl, hD, hb1⟩
  have kf := kf.bel hb1
  have kr := kr.bel hb1
  have hf := hf.bel hb1
  have hd := hd.bel hb1
  have hW := bel_nx hW hb1
  have c_kf := kf.cell
  have c_kr := kr.cell
  go_wp2_with fail
  refine (specUndoPlan_c v F m d l st P pn pc done _ hf hz hm2 hd hpn2).mono ?_
  rintro e u2 ⟨E, en, ec, rfl, hE, hb2⟩
  have kf := kf.bel hb2
  have kr := kr.bel hb2
  have hf := hf.bel hb2
  have hd := hd.bel hb2
  have hW := bel_nx hW hb2
  have hD := own_bel hD hb2
  have c_kf := kf.cell
  have c_kr := kr.cell
  go_wp2_with fail
  refine (sameTexts_b _ _ _ _ _ _ _ _ (SlS.of_own hD) (SlS.of_own hE)).mono ?_
  rintro e u3 ⟨rfl, hb3⟩
  have kf := kf.bel hb3
  have kr := kr.bel hb3
  have hf := hf.bel hb3
  have hd := hd.bel hb3
  have hW := bel_nx hW hb3
  have hD := own_bel hD hb3
  have hE := own_bel hE hb3
  have c_kf := kf.cell
  have c_kr := kr.cell
  obtain ⟨bv, hbv⟩ : ∃ x, runB v l st done = x := ⟨_, rfl⟩
  have Hbv := Lib.hid hbv
  clear hbv
  go_wp2_with fail
  refine (specRunValid_b v F m d l st P pn pc done bv _ hf hz hm2 hd Hbv.out).mono ?_
  rintro e u4 ⟨rfl, hb4⟩
  have kf := kf.bel hb4
  have kr := kr.bel hb4
  have hf := hf.bel hb4
  have hd := hd.bel hb4
  have hW := bel_nx hW hb4
  have hD := own_bel hD hb4
  have hE := own_bel hE hb4
  have c_kf := kf.cell
  have c_kr := kr.cell
  cases bv
  · skip
    go_wp2_with fail
    refine (sameTexts_b _ _ _ _ _ _ _ _ (SlS.of_own hD) (SlS.of_own hE)).mono ?_
    rintro e u5 ⟨rfl, hb5⟩
    have kf := kf.bel hb5
    have kr := kr.bel hb5
    have hf := hf.bel hb5
    have hd := hd.bel hb5
    have hW := bel_nx hW hb5
    have hD := own_bel hD hb5
    have hE := own_bel hE hb5
    have c_kf := kf.cell
    have c_kr := kr.cell
    go_wp2_with fail
    go_ret
    exact ⟨rfl, hW⟩
  by_cases h2 : st = 2
  · have e2 : (st == 2) = true := by simpa using h2
    clear h2
    go_wp2_with fail
    refine (sameTexts_b _ _ _ _ _ _ _ _ (SlS.of_own hD) (SlS.of_own hE)).mono ?_
    rintro e u6 ⟨rfl, hb6⟩
    have kf := kf.bel hb6
    have kr := kr.bel hb6
    have hf := hf.bel hb6
    have hd := hd.bel hb6
    have hW := bel_nx hW hb6
    have hD := own_bel hD hb6
    have hE := own_bel hE hb6
    have c_kf := kf.cell
    have c_kr := kr.cell
    go_wp2_with fail
    go_ret
    exact ⟨rfl, hW⟩
  have e2 : (st == 2) = false := by simpa using h2
  have HL := Lib.hid (leftP_some Hbv.out h2)
  have HP := Lib.hid (planP_yes Hbv.out h2)
  clear h2
  obtain ⟨f, hfq⟩ : ∃ f, firmP l done = f := ⟨_, rfl⟩
  have hfl := firmP_le (l := l) (done := done)
  rw [hfq] at hfl
  have HF := Lib.hid hfq
  clear hfq
  rw [HP.out, HF.out] at hD hE
  have hdn := own_countS hD
  simp at hdn
  rw [hld.out] at hdn hfl
  have hJ1 : f = pn - dn := by omega
  have hJ2 : dn ≤ pn := by omega
  have HF2 : Hid (firmP l done = pn - dn) := Lib.hid (by rw [HF.out]; exact hJ1)
  rw [hJ1] at hD hE
  clear HF hfl hdn hJ1 hE
  go_wp2_with fail
  refine (implUndoLeft_c v F m d l st P pn pc done _ (hf.al _) hz hm2 (hd.al _) hpn2).mono ?_
  rintro e wL ⟨J, jn, jc, rfl, hJ, hbL⟩
  rw [HL.out, HF2.out] at hJ
  have hjq := own_countS hJ
  have hjn : jn = pn - dn := by rw [hjq, List.length_take, hld.out]; omega
  clear hjq
  subst hjn
  have hN : wL.ownsRow u4.heap.size 9 1 (.slice (some ⟨u4.heap.size, 0, none⟩) 0 0) 0 (([] : List ByteArray).map Value.string) := own_bel (texts_new u4) hbL
  have hT : Below u4.heap.size u4 wL := bel_nx (bel_al (bel_refl u4) _) hbL
  have hszL := hT.size
  have hsW := hW.size
  have hDc := (SlS.of_own hD).cap
  have hDm := (SlS.of_own hD).max
  clear hbL c_kf c_kr
  have c_kf := (kf.bel hT).cell
  have c_kr := (kr.bel hT).cell
  obtain ⟨i0, hi0, hz0, hz1, hz2⟩ := info_parts str_info
  have hwd : IntKind.i64.wrap ((dn : Int) - 1) = (dn : Int) - 1 := by rw [IntKind.wrap_i64]; omega
  go_wp2_with (at_builtin; refine wpList_append_sl (enc := encS) rfl _ _ 28 rfl u4.heap.size 9 i0 (.string ByteArray.empty) 1 16 Try.underlying28 hi0 hz0 hz1 hz2 rfl (by decide) (.slice (some ⟨u4.heap.size, 0, none⟩) 0 0) 0 [] rfl hN J (pn - dn) jc (done.take (pn - dn)) rfl (fun _ => rfl) (SlS.of_own hJ) one_S (by unfold maxLen; omega) (by omega) (by omega) ?_; intro v9 w9 ho9 hg9 hl9; rw [Nat.zero_add, List.nil_append, flat_encS] at ho9; obtain ⟨A9, c9, rfl⟩ := own_form ho9; have hT9 : Below u4.heap.size u4 w9 := Below.grown hT hg9 hszL (fun j hj => by cases hj; exact Nat.le_refl _))
  clear c_kf c_kr
  go_loopw [7, 8] (fun xv iv wr => ∃ (j : Nat) (X : Option Addr) (xc : Nat), j ≤ dn ∧ iv = .int .i64 ((j : Int) - 1) ∧ xv = .slice X (pn - j) xc ∧ wr.ownsRow u4.heap.size 9 1 (.slice X (pn - j) xc) (pn - j) ((done.take (pn - j)).map Value.string) ∧ Below u4.heap.size u4 wr) (fun _ iv _ => ((intOf iv) + 1).toNat)
  case atStart => exact ⟨dn, A9, c9, Nat.le_refl _, rfl, rfl, ho9, hT9⟩
  case round =>
    obtain ⟨j, X, xc, hj, rfl, rfl, hX, hTr⟩ := hrel
    have hszr := hTr.size
    have c_kr := (kr.bel hTr).cell
    rcases Nat.eq_zero_or_pos j with hj0 | hj0
    · subst hj0
      have dj : decide ((0 : Int) ≤ ((0 : Nat) : Int) - 1) = false := by decide
      rw [Nat.sub_zero, List.take_of_length_le (by rw [hld.out]; omega)] at hX
      go_wp2_with fail
      refine (sameTexts_b _ _ _ _ _ _ done _ (SlS.of_own hX) (hd.bel hTr)).mono ?_
      rintro e w8 ⟨rfl, hb8⟩
      go_wp2_with fail
      go_ret
      exact ⟨rfl, bel_nx (bel_nx hW hTr) hb8⟩
    · obtain ⟨i, rfl⟩ : ∃ i, j = i + 1 := ⟨j - 1, by omega⟩
      obtain ⟨b, off, t, hA, hx, hc0⟩ := SlS.get (SlS.of_own (own_bel hD hTr)) (i := i) (by omega)
      subst hA
      have hx2 : done[pn - (i + 1)]? = some t := by
        rw [List.getElem?_reverse (by simp; rw [hld.out]; omega), List.getElem?_drop] at hx
        simp only [List.length_drop, hld.out] at hx
        rw [← hx]; congr 1; omega
      have HN : Hid (done.take (pn - i) = done.take (pn - (i + 1)) ++ [t]) := Lib.hid (by rw [show pn - i = pn - (i + 1) + 1 by omega]; exact take_snocG hx2)
      clear hx hx2
      have q0 : (0 : Int) ≤ (i : Int) := by omega
      have q1 : (i : Int) < (dn : Int) := by omega
      have hiv : ((i + 1 : Nat) : Int) - 1 = (i : Int) := by omega
      rw [hiv]
      have hwi : IntKind.i64.wrap ((i : Int) - 1) = (i : Int) - 1 := by rw [IntKind.wrap_i64]; omega
      go_wp2_with (at_builtin; refine wpList_append_sl (enc := encS) rfl _ _ 28 rfl u4.heap.size 9 i0 (.string ByteArray.empty) 1 16 Try.underlying28 hi0 hz0 hz1 hz2 rfl (by decide) (.slice X (pn - (i + 1)) xc) (pn - (i + 1)) ((done.take (pn - (i + 1))).map Value.string) rfl (hX.alloc _) (some ⟨wr.heap.size, 0, none⟩) 1 1 [t] rfl (fun _ => rfl) (Sl.one (Blk.new _ _ _)) one_S (by unfold maxLen; omega) (by omega) (by simp; omega) ?_; intro v5 w5 ho5 hg5 hl5; obtain ⟨A5, c5, rfl⟩ := own_form ho5; rw [flat_encS, ← List.map_append] at ho5)
      have hT5 : Below u4.heap.size u4 w5 := Below.grown (hTr.alloc hszr _) hg5 (by simp; omega) (fun q hq => (hX.lt q hq).1)
      rw [show pn - (i + 1) + 1 = pn - i by omega] at ho5 ⊢
      go_roundw
      case rel => exact ⟨i, A5, c5, by omega, rfl, rfl, by rw [HN.out]; exact ho5, hT5⟩
      case measure => simp [intOf]

set_option maxRecDepth 100000 in
theorem fnUndoPlanLeft_l (os : Os) (started : os.Started) (H : Type) (enc : TypeId × Value → H) :
    ReturnsInHanded {} Try.checked os 8 .any (Rows.fnUndoPlanLeftSpec.pre6 enc Try.prog Try.f8 Rows.fnUndoPlanLeftRow.domain false) (Rows.fnUndoPlanLeftSpec.post enc Try.prog Try.f8 false true false false) := by
  refine returnsInHanded_of_change (C := Try.checked) own started (by kernel_rfl) Try.func8
    (ChangeSpec.witness6 (enc := enc) (C := Try.checked) false ⟨#[], #[.slice none 0 0], []⟩ 8 (by kernel_rfl) (by kernel_rfl) (by kernel_rfl) (by kernel_rfl)) ?_
  intro W base args ds gs before hval0 hW hcnd _
  have hval : ∀ (j : Nat) t v, Try.f8.params[j]? = some t → args[j]? = some v → Value.okWide Try.prog W .any base t v := hval0
  have hW' := hW
  obtain ⟨p, q, hA0, hV, rfl, hfz, hnd⟩ := hW
  have hA : DataW.TrodAll enc Try.prog W 0 (fun _ => true) true Try.f8.params.toList args.toList ds p := hA0
  rw [Try.params8] at hA hval
  obtain ⟨v0, vs0, d0, ds0, p0, q0, hargs, rfl, rfl, h0, r0⟩ := trodAll_cons hA
  obtain ⟨rfl, rfl, rfl⟩ := trodAll_nil r0
  obtain rfl : args = #[v0] := by cases args; simp_all
  obtain ⟨rfl, rfl⟩ := trodVars_none hV
  have k0 := h0
  have lt0 : ∀ x ∈ p0, x.block < W.heap.size := by obtain ⟨m, hm⟩ := k0; exact DataW.trod_lt m _ _ _ hm
  obtain ⟨A0, n0, c0, rfl⟩ := okWide_slice Try.underlying22 (hval 0 22 v0 rfl rfl)
  obtain ⟨z0, w0⟩ := bytes_row h0 (fun _ => rfl)
  clear hA0 hval0
  refine (fnUndoPlanLeft_w A0 n0 c0 z0 W w0).mono fun e W' ⟨he, bel⟩ => ?_
  subst he
  exact ⟨_, rfl, _, _, _, [], _, [], hW', trodAll_mk1 (shut_bool Try.underlying4 _), (trodAll_cons_mk (Below.trod laidOut (by kernel_rfl) (of_decide_eq_true (by kernel_rfl)) k0 bel lt0) trodAll_mk0), rfl, bel.frame _, fun h => by cases h⟩

theorem fnUndoPlanLeft_holds : Rows.FnUndoPlanLeftSaid :=
  OpenClaim.holds_of_wide 8 Try.f8 rfl rfl rfl rfl rfl rfl rfl ⟨rfl, rfl, rfl, rfl, rfl⟩ rfl rfl rfl rfl rfl (by kernel_rfl) Try.func8 (by kernel_rfl)
    (of_decide_eq_true (by kernel_rfl)) (by unfold Func.isWrapper; first | (rw [if_pos (by decide +kernel)]; kernel_rfl) | (rw [if_neg (by decide +kernel)]; exact ⟨rfl, rfl⟩))
    (fun os started H enc _ => fnUndoPlanLeft_l os started H enc)
#print axioms fnUndoPlanLeft_holds

end Go.Proofs.Ytdchfiiaollheaa
