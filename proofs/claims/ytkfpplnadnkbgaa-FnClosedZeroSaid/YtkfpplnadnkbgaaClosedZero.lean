/- For every code that guards are drawn from: with the greatest values none of the valid guards is closed. No conditions. -/
import Derived.Test.YtkfpplnadnkbgaaGuardsDraw
import Derived.Test.YtkfpplnadnkbgaaGuardsPlain
import Derived.Test.YtkfpplnadnkbgaaVarsDraw
import Derived.Test.YtkfpplnadnkbgaaLift
namespace Go.Proofs.Ytkfpplnadnkbgaa
open Go.ChangeShapes Go.WideShapes Go.ChangeAt Go.RowKit Go.Joins

abbrev v99 : List Int := [99, 99, 99, 99]
theorem v99_valid : varsB v99 = true := by rw [varsB_iff]; exact ⟨rfl, by intro z hz; simp at hz; omega⟩
theorem v99_at {i : Nat} {z : Int} (h : v99[i]? = some z) : z = 99 := by
  have := List.mem_of_getElem? h
  simpa using this

set_option maxHeartbeats 400000 in
theorem closedZero_c (A B : Option Addr) (n c c' : Nat) (l : List R3) (w : World) (h : SlR w A n c l) (hz : SzR l) (hv : guardsB l = true) (h' : SlI w B 4 c' v99) : Calls Try.prog 16 #[.slice A n c, .slice B 4 c'] w fun e w' =>
    e = .returned (.slice none 0 0) ∧ Below w.heap.size w w' := by
  have HL := Lib.hid h.len
  have HV := Lib.hid hv
  have HZ := Lib.hid v99_valid
  have hcap := h.cap
  have hmax := h.max
  have hcap' := h'.cap
  have hmax' := h'.max
  clear hv
  go_enter Try.func16, Try.ntmps16
  go_wp2_with fail
  refine (implGuardsValid_c _ _ _ l _ h hz).mono ?_
  rintro e w1 ⟨rfl, hb1⟩
  rw [HV.out]
  go_wp2_with fail
  refine (implVarsValid_c _ _ _ _ _ (h'.bel hb1)).mono ?_
  rintro e w1 ⟨rfl, rfl⟩
  rw [HZ.out]
  have h := h.bel hb1
  have h' := h'.bel hb1
  go_wp2_with fail
  go_loopw [18, 5] (fun i v wr => ∃ k : Nat, k ≤ n ∧ i = .int .i64 k ∧ v = .slice none 0 0 ∧ Below w1.heap.size w1 wr) (fun i _ _ => n - (intOf i).toNat)
  case atStart => exact ⟨0, Nat.zero_le _, rfl, rfl, Below.refl _ _⟩
  case round =>
    obtain ⟨k, hk, rfl, rfl, hbr⟩ := hrel
    by_cases hlt : k < n
    · obtain ⟨b, off, s, x, y, rfl, hx, hc0, hc1, hc2⟩ := SlR.get (h.bel hbr) hlt
      obtain ⟨x0, x1, y0, y1⟩ := guards_mem HV.out (List.mem_of_getElem? hx)
      simp only at x0 x1 y0 y1
      clear hx
      obtain ⟨b', off', z, rfl, hz', hcz⟩ := SlI.get (h'.bel hbr) (i := x.toNat) (by omega)
      obtain rfl := v99_at hz'
      clear hz'
      have x2 : x < 4 := by omega
      have hd : decide ((99 : Int) < y) = false := decide_eq_false (by omega)
      go_wp2_with fail
      go_quiet (fail)
      go_wp2_with fail
      go_roundw
      case rel => exact ⟨k + 1, by omega, by go_num, rfl, by (repeat' first | assumption | exact bel_refl _ | refine bel_al ?_ _ | refine bel_dr ?_ | refine bel_drN ?_ _ | refine bel_nx ?_ (by assumption) | (refine bel_set ?_ (by first | omega | (simp; omega)) _))⟩
      case measure => simp [intOf]; omega
    · go_wp2_with fail
      go_ret
      exact ⟨rfl, bel_nx hb1 hbr⟩

theorem v99_new (w : World) : SlI (w.alloc (.cells #[.int .i64 99, .int .i64 99, .int .i64 99, .int .i64 99] 3)) (some ⟨w.heap.size, 0, none⟩) 4 4 v99 :=
  blk_sl (l := v99) (Blk.new w 3 _) (Nat.le_refl _) (by omega) (by simp)

set_option maxHeartbeats 400000 in
theorem fnClosedZero_w (A : Option Addr) (n c : Nat) (zs : List Int) (w : World) (h : IsRow .u8 w A n c zs) : Calls Try.prog 6 #[.slice A n c] w fun e w' => e = .returned (.bool true) ∧ Below w.heap.size w w' := by
  obtain ⟨l1, l2⟩ := row_len h
  by_cases hn : 1048576 < n
  · go_enter Try.func6, Try.ntmps6
    go_wp2_with fail
    go_ret
    exact ⟨rfl, Below.refl _ _⟩
  · go_enter Try.func6, Try.ntmps6
    go_wp2_with fail
    refine (drawGuardsValid_c A n c zs _ h).mono ?_
    rintro e w1 ⟨B, m, d, l, rfl, hs, hm, h5, hb1⟩
    have hz := sz5_szR h5
    go_wp2_with fail
    refine (implGuardsValid_c _ _ _ l _ hs hz).mono ?_
    rintro e w2 ⟨rfl, hb2⟩
    have hs2 := hs.bel hb2
    go_wp2_with fail
    refine (specGuardsValid_c _ _ _ l _ hs2 hz).mono ?_
    rintro e w3 ⟨rfl, hb3⟩
    have hs3 := hs2.bel hb3
    cases hv : guardsB l
    · go_wp2_with fail
      go_ret
      exact ⟨rfl, bel_nx (bel_nx hb1 hb2) hb3⟩
    · have HV := Lib.hid hv
      clear hv
      go_wp2_with fail
      refine (closedZero_c _ _ _ _ _ l _ (hs3.al _) hz HV.out (v99_new w3)).mono ?_
      rintro e w4 ⟨rfl, hb4⟩
      go_wp2_with fail
      go_ret
      exact ⟨rfl, bel_nx (bel_al (bel_nx (bel_nx hb1 hb2) hb3) _) hb4⟩

set_option maxRecDepth 100000 in
theorem fnClosedZero_l (os : Os) (started : os.Started) (H : Type) (enc : TypeId × Value → H) :
    ReturnsInHanded {} Try.checked os 6 .any (Rows.fnClosedZeroSpec.pre6 enc Try.prog Try.f6 Rows.fnClosedZeroRow.domain false) (Rows.fnClosedZeroSpec.post enc Try.prog Try.f6 false true false false) := by
  refine returnsInHanded_of_change (C := Try.checked) own started (by kernel_rfl) Try.func6
    (ChangeSpec.witness6 (enc := enc) (C := Try.checked) false ⟨#[], #[.slice none 0 0], []⟩ 8 (by kernel_rfl) (by kernel_rfl) (by kernel_rfl) (by kernel_rfl)) ?_
  intro W base args ds gs before hval0 hW hcnd _
  have hval : ∀ (j : Nat) t v, Try.f6.params[j]? = some t → args[j]? = some v → Value.okWide Try.prog W .any base t v := hval0
  have hW' := hW
  obtain ⟨p, q, hA0, hV, rfl, hfz, hnd⟩ := hW
  have hA : DataW.TrodAll enc Try.prog W 0 (fun _ => true) true Try.f6.params.toList args.toList ds p := hA0
  rw [Try.params6] at hA hval
  obtain ⟨v0, vs0, d0, ds0, p0, q0, hargs, rfl, rfl, h0, r0⟩ := trodAll_cons hA
  obtain ⟨rfl, rfl, rfl⟩ := trodAll_nil r0
  obtain rfl : args = #[v0] := by cases args; simp_all
  obtain ⟨rfl, rfl⟩ := trodVars_none hV
  have k0 := h0
  have lt0 : ∀ x ∈ p0, x.block < W.heap.size := by obtain ⟨m, hm⟩ := k0; exact DataW.trod_lt m _ _ _ hm
  obtain ⟨A0, n0, c0, rfl⟩ := okWide_slice Try.underlying26 (hval 0 26 v0 rfl rfl)
  obtain ⟨z0, w0⟩ := bytes_row h0 (fun _ => rfl)
  clear hA0 hval0
  refine (fnClosedZero_w A0 n0 c0 z0 W w0).mono fun e W' ⟨he, bel⟩ => ?_
  subst he
  exact ⟨_, rfl, _, _, _, [], _, [], hW', trodAll_mk1 (shut_bool Try.underlying4 _), (trodAll_cons_mk (Below.trod laidOut (by kernel_rfl) (of_decide_eq_true (by kernel_rfl)) k0 bel lt0) trodAll_mk0), rfl, bel.frame _, fun h => by cases h⟩

theorem fnClosedZero_holds : Rows.FnClosedZeroSaid :=
  OpenClaim.holds_of_wide 6 Try.f6 rfl rfl rfl rfl rfl rfl rfl ⟨rfl, rfl, rfl, rfl, rfl⟩ rfl rfl rfl rfl rfl (by kernel_rfl) Try.func6 (by kernel_rfl)
    (of_decide_eq_true (by kernel_rfl)) (by unfold Func.isWrapper; first | (rw [if_pos (by decide +kernel)]; kernel_rfl) | (rw [if_neg (by decide +kernel)]; exact ⟨rfl, rfl⟩))
    (fun os started H enc _ => fnClosedZero_l os started H enc)
#print axioms fnClosedZero_holds
end Go.Proofs.Ytkfpplnadnkbgaa
