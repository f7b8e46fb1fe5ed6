/- For every code that a flow is drawn from: where all can be undone, all is safe. No conditions. -/
import Derived.Test.YtdchfiiaollheaaSafePlain
import Derived.Test.YtdchfiiaollheaaSafeDraw
import Derived.Test.YtdchfiiaollheaaSafeS
import Derived.Test.YtdchfiiaollheaaSafeI
import Derived.Test.YtdchfiiaollheaaLift
namespace Go.Proofs.Ytdchfiiaollheaa
open Go.ChangeShapes Go.WideShapes Go.ChangeAt Go.RowKit Go.Joins

theorem specFlowValid_b (v : Int) (A : Option Addr) (n c : Nat) (l : List Stp) (b : Bool) (w : World) (h : SlP w A n c l) (hz : SzP l) (hn : n ≤ 1048576) (hb : flowB v l = b) : Calls Try.prog 18 #[.agg #[.int .i64 v, .slice A n c]] w fun e w' =>
    e = .returned (.bool b) ∧ Below w.heap.size w w' := by
  rw [← hb]; exact specFlowValid_c v A n c l w h hz hn

set_option maxRecDepth 20000 in
set_option maxHeartbeats 8000000 in
theorem fnUndoSafeAll_w (A : Option Addr) (n c : Nat) (zs : List Int) (w : World) (h : IsRow .u8 w A n c zs) : Calls Try.prog 3 #[.slice A n c] w fun e w' => e = .returned (.bool true) ∧ Below w.heap.size w w' := by
  obtain ⟨r1, r2⟩ := row_len h
  by_cases hn : 1048576 < n
  · go_enter Try.func3, Try.ntmps3
    go_wp2_with fail
    go_ret
    exact ⟨rfl, Below.refl _ _⟩
  have g1 : (n : Int) ≤ 1048576 := by omega
  clear hn
  go_enter Try.func3, Try.ntmps3
  go_wp2_with fail
  refine (drawUndoSafe_c A n c zs _ h).mono ?_
  rintro e w1 ⟨v, F, m, d, l, rfl, hf, h5, hm1, hm6, hW⟩
  have hz := h5.szP
  have hm2 : m ≤ 1048576 := by omega
  have HL := Lib.hid hf.len
  have hcap := hf.cap
  have hmax := hf.max
  have kf := Blk.new w1 25 #[.int .i64 v, .slice F m d]
  have hf := hf.al (.cells #[.int .i64 v, .slice F m d] 25)
  have hW := bel_al hW (.cells #[.int .i64 v, .slice F m d] 25)
  obtain ⟨bs, hbs⟩ : ∃ x, safeB v l = x := ⟨_, rfl⟩
  have HS := Lib.hid hbs
  clear hbs
  have ebb : (bs != bs) = false := by cases bs <;> rfl
  have ebe : (bs == bs) = true := by cases bs <;> rfl
  obtain ⟨bv, hbv⟩ : ∃ x, flowB v l = x := ⟨_, rfl⟩
  have HV := Lib.hid hbv
  clear hbv
  have cf := kf.cell
  go_wp2_with fail
  refine (implUndoSafe_c v F m d l _ hf hz).mono ?_
  rintro e w2 ⟨rfl, hb2⟩
  rw [HS.out]
  have kf := kf.bel hb2
  have hf := hf.bel hb2
  have hW := bel_nx hW hb2
  have cf := kf.cell
  go_wp2_with fail
  refine (specUndoSafe_c v F m d l _ hf hz hm2).mono ?_
  rintro e w3 ⟨rfl, hb3⟩
  rw [HS.out]
  have kf := kf.bel hb3
  have hf := hf.bel hb3
  have hW := bel_nx hW hb3
  have cf := kf.cell
  go_wp2_with fail
  refine (specFlowValid_b v F m d l bv _ hf hz hm2 HV.out).mono ?_
  rintro e w4 ⟨rfl, hb4⟩
  have kf4 := kf.bel hb4
  have hf4 := hf.bel hb4
  have hW4 := bel_nx hW hb4
  have cf4 := kf4.cell
  clear cf
  cases bv
  · go_wp2_with fail
    go_ret
    exact ⟨by simp, hW4⟩
  go_wp2_with fail
  go_loopw [6, 7] (fun nv iv wr => ∃ k : Nat, k ≤ m ∧ iv = .int .i64 (k : Int) ∧ nv = .int .i64 ((noUndo (l.take k) : Nat) : Int) ∧ Below w4.heap.size w4 wr) (fun _ iv _ => m - (intOf iv).toNat)
  case atStart => exact ⟨0, Nat.zero_le _, rfl, rfl, bel_refl _⟩
  case round =>
    obtain ⟨k, hk, rfl, rfl, hTr⟩ := hrel
    have kfL := kf4.bel hTr
    have cfL := kfL.cell
    clear cf4
    have hle := noUndo_le (l.take k)
    have hlk : (l.take k).length ≤ k := by simp; omega
    by_cases hlt : k < m
    · obtain ⟨b, off, nm, B, mm, dd, af, u, hA, hx, _, _, hc2, _⟩ := SlP.get (hf4.bel hTr) hlt
      subst hA
      have k0 : (0 : Int) ≤ (k : Int) := by omega
      have k1 : (k : Int) < (m : Int) := by omega
      have cfL := kfL.cell
      cases u
      · have HN := Lib.hid (noUndo_in hx)
        have hwn : IntKind.i64.wrap ((noUndo (l.take k) : Nat) + 1 : Int) = ((noUndo (l.take k) : Nat) : Int) + 1 := by rw [IntKind.wrap_i64]; omega
        clear hx
        go_wp2_with fail
        go_roundw
        case rel => exact ⟨k + 1, by omega, by go_num, by rw [HN.out]; rfl, hTr⟩
        case measure => simp [intOf]; omega
      · have HN := Lib.hid (noUndo_out hx)
        clear hx
        go_wp2_with fail
        go_roundw
        case rel => exact ⟨k + 1, by omega, by go_num, by rw [HN.out], hTr⟩
        case measure => simp [intOf]; omega
    · have hkm : l.take k = l := List.take_of_length_le (by rw [HL.out]; omega)
      rw [hkm]
      clear hkm
      have h1 : bs = true → noUndo l ≤ 1 := fun e => noUndo_one (HS.out.trans e)
      have h0 : noUndo l = 0 → bs = true := fun e => (HS.out.symm.trans (noUndo_zero HV.out e))
      obtain ⟨z, hz0⟩ : ∃ z, z = noUndo l := ⟨_, rfl⟩
      rw [← hz0] at h1 h0 ⊢
      clear hz0 hle hlk
      have hWr := bel_nx hW4 hTr
      cases bs
      · have hp : 0 < z := by
          rcases Nat.eq_zero_or_pos z with q | q
          · have := h0 q; cases this
          · exact q
        have dz : decide ((0 : Int) < (z : Int)) = true := decide_eq_true (by omega)
        have dz' : decide (0 < z) = true := decide_eq_true hp
        clear h0 h1
        go_wp2_with fail
        go_ret
        exact ⟨rfl, hWr⟩
      · have h1 := h1 rfl
        clear h0
        have dz1 : decide ((z : Int) ≤ 1) = true := decide_eq_true (by omega)
        have dz1' : decide (z ≤ 1) = true := decide_eq_true h1
        rcases Nat.eq_zero_or_pos z with q | q
        · subst q
          go_wp2_with fail
          go_ret
          exact ⟨rfl, hWr⟩
        · have dz : decide ((0 : Int) < (z : Int)) = true := decide_eq_true (by omega)
          have dz' : decide (0 < z) = true := decide_eq_true q
          go_wp2_with fail
          go_ret
          exact ⟨rfl, hWr⟩

set_option maxRecDepth 100000 in
theorem fnUndoSafeAll_l (os : Os) (started : os.Started) (H : Type) (enc : TypeId × Value → H) :
    ReturnsInHanded {} Try.checked os 3 .any (Rows.fnUndoSafeAllSpec.pre6 enc Try.prog Try.f3 Rows.fnUndoSafeAllRow.domain false) (Rows.fnUndoSafeAllSpec.post enc Try.prog Try.f3 false true false false) := by
  refine returnsInHanded_of_change (C := Try.checked) own started (by kernel_rfl) Try.func3
    (ChangeSpec.witness6 (enc := enc) (C := Try.checked) false ⟨#[], #[.slice none 0 0], []⟩ 8 (by kernel_rfl) (by kernel_rfl) (by kernel_rfl) (by kernel_rfl)) ?_
  intro W base args ds gs before hval0 hW hcnd _
  have hval : ∀ (j : Nat) t v, Try.f3.params[j]? = some t → args[j]? = some v → Value.okWide Try.prog W .any base t v := hval0
  have hW' := hW
  obtain ⟨p, q, hA0, hV, rfl, hfz, hnd⟩ := hW
  have hA : DataW.TrodAll enc Try.prog W 0 (fun _ => true) true Try.f3.params.toList args.toList ds p := hA0
  rw [Try.params3] at hA hval
  obtain ⟨v0, vs0, d0, ds0, p0, q0, hargs, rfl, rfl, h0, r0⟩ := trodAll_cons hA
  obtain ⟨rfl, rfl, rfl⟩ := trodAll_nil r0
  obtain rfl : args = #[v0] := by cases args; simp_all
  obtain ⟨rfl, rfl⟩ := trodVars_none hV
  have k0 := h0
  have lt0 : ∀ x ∈ p0, x.block < W.heap.size := by obtain ⟨m, hm⟩ := k0; exact DataW.trod_lt m _ _ _ hm
  obtain ⟨A0, n0, c0, rfl⟩ := okWide_slice Try.underlying22 (hval 0 22 v0 rfl rfl)
  obtain ⟨z0, w0⟩ := bytes_row h0 (fun _ => rfl)
  clear hA0 hval0
  refine (fnUndoSafeAll_w A0 n0 c0 z0 W w0).mono fun e W' ⟨he, bel⟩ => ?_
  subst he
  exact ⟨_, rfl, _, _, _, [], _, [], hW', trodAll_mk1 (shut_bool Try.underlying4 _), (trodAll_cons_mk (Below.trod laidOut (by kernel_rfl) (of_decide_eq_true (by kernel_rfl)) k0 bel lt0) trodAll_mk0), rfl, bel.frame _, fun h => by cases h⟩

theorem fnUndoSafeAll_holds : Rows.FnUndoSafeAllSaid :=
  OpenClaim.holds_of_wide 3 Try.f3 rfl rfl rfl rfl rfl rfl rfl ⟨rfl, rfl, rfl, rfl, rfl⟩ rfl rfl rfl rfl rfl (by kernel_rfl) Try.func3 (by kernel_rfl)
    (of_decide_eq_true (by kernel_rfl)) (by unfold Func.isWrapper; first | (rw [if_pos (by decide +kernel)]; kernel_rfl) | (rw [if_neg (by decide +kernel)]; exact ⟨rfl, rfl⟩))
    (fun os started H enc _ => fnUndoSafeAll_l os started H enc)
#print axioms fnUndoSafeAll_holds

end Go.Proofs.Ytdchfiiaollheaa
