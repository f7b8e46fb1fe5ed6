/- For every inbox the program's InboxValid returns what the reference's returns. No conditions. -/
import Derived.Test.YtdcojlbekpcejaaInboxEq
import Derived.Test.YtdcojlbekpcejaaLift
namespace Go.Proofs.Ytdcojlbekpcejaa
open Go.ChangeShapes Go.WideShapes Go.ChangeAt Go.RowKit Go.Joins

theorem wf_bounds {n : Int} (h : (Lit.int .i64 n).wf = true) : -9223372036854775808 ≤ n ∧ n ≤ 9223372036854775807 := by
  simp only [Lit.wf, Bool.and_eq_true, decide_eq_true_eq] at h
  rw [show IntKind.i64.min = -9223372036854775808 by decide, show IntKind.i64.max = 9223372036854775807 by decide] at h
  exact h

theorem ints_cell {H : Type} {enc : TypeId × Value → H} {W : World} {base : Nat} {spare : Nat → Bool} {held : Bool} {m : Nat} {v : Value} {y : DataW H × List MemPlace}
    (hf : DataW.trod enc Try.prog W base spare held m 23 [v] = some y) (hsp : ∀ b, spare b = true) : ∃ A n c l, v = .slice A n c ∧ SlI W A n c l := by
  rcases open_ints Try.underlying23 Try.underlying3 (by kernel_rfl) hf with ⟨hcs, _⟩ | ⟨x, l, c', zs, hcs, _, hl, hm, hz, _, hcell, hwz⟩
  · simp at hcs
    subst hcs
    exact ⟨_, _, _, [], rfl, Sl.nil_ _ _ _⟩
  · simp at hcs
    subst hcs
    rw [hsp] at hz
    simp at hz
    unfold maxLen at hm
    refine ⟨_, _, _, zs.take l, rfl, by simp; omega, hl, by omega, fun hn => ?_⟩
    obtain ⟨b, off, spot⟩ := x
    have hc0 := hcell 0 (by omega)
    have hspot : spot = none := by simpa [Addr.add] using World.cell?_spot hc0
    subst hspot
    have hadd : ∀ i, (⟨b, off, none⟩ : Addr).add i = ⟨b, off + i, none⟩ := fun i => by unfold Addr.add; split <;> simp_all
    refine ⟨b, off, rfl, fun i a ha j u hu => ?_⟩
    match j, hu with
    | 0, hu =>
      simp [encI] at hu
      subst hu
      have hi : i < l := by
        have := (List.getElem?_eq_some_iff.1 ha).1
        simp at this
        omega
      rw [List.getElem?_take, if_pos hi] at ha
      have := hcell i (by omega)
      rw [hadd, List.getD_eq_getElem?_getD, ha] at this
      simpa using this
    | j + 1, hu => simp [encI] at hu

set_option maxHeartbeats 400000 in
theorem exactInboxValid_w (a : Int) (A : Option Addr) (n c : Nat) (l : List Int) (w : World) (h : SlI w A n c l) (ha : -9223372036854775808 ≤ a) (ha2 : a ≤ 9223372036854775807) : Calls Try.prog 4 #[.agg #[.int .i64 a, .slice A n c]] w fun e w' => e = .returned (.bool true) ∧ Below w.heap.size w w' := by
  have hcap := h.cap
  have hmax := h.max
  go_enter Try.func4, Try.ntmps4
  go_wp2_with fail
  refine (szInbox_c a A n c _ _ (by omega) (by omega) (by omega)).mono ?_
  rintro e w0 ⟨r, rfl, hr, hb0⟩
  have k0 := (Blk.new w 29 #[.int .i64 a, .slice A n c]).bel hb0
  have c0 := k0.cell
  have f0 := k0.frozen
  by_cases hneg : r < 0
  · go_wp2_with fail
    go_ret
    exact ⟨rfl, by (repeat' first | exact bel_refl _ | refine bel_al ?_ _ | refine bel_dr ?_ | refine bel_drN ?_ _ | refine bel_nx ?_ (by assumption) | (refine bel_set ?_ (by first | omega | (simp; omega)) _))⟩
  · have hn : n ≤ 1048576 := by omega
    go_wp2_with fail
    refine (toInbox_c a A n c l _ ((h.al _).bel hb0) hn).mono ?_
    rintro e w1 ⟨A1, c1, rfl, hown1, hb1⟩
    have k1 := k0.bel hb1
    have c1' := k1.cell
    have f1 := k1.frozen
    go_wp2_with fail
    refine (specInboxValid_c a A1 n c1 l _ (SlI.of_own hown1) ha ha2).mono ?_
    rintro e w2 ⟨rfl, hb2⟩
    have k2 := k1.bel hb2
    have c2 := k2.cell
    have f2 := k2.frozen
    go_wp2_with fail
    refine (toInbox_c a A n c l _ ((((h.al _).bel hb0).bel hb1).bel hb2) hn).mono ?_
    rintro e w3 ⟨A3, c3, rfl, hown3, hb3⟩
    have k3 := k2.bel hb3
    have c3' := k3.cell
    have f3 := k3.frozen
    go_wp2_with fail
    have kb := Blk.new w3 25 #[.int .i64 a, .slice A3 n c3]
    refine (implInboxValid_c a A3 n c3 l _ ((SlI.of_own hown3).al _) ha ha2).mono ?_
    rintro e w4 ⟨rfl, hb4⟩
    have k4 := (k3.al (.cells #[.int .i64 a, .slice A3 n c3] 25)).bel hb4
    have c4 := k4.cell
    have f4 := k4.frozen
    have kb4 := kb.bel hb4
    have cb4 := kb4.cell
    have fb4 := kb4.frozen
    have hW := ((((((h.al (.cells #[.int .i64 a, .slice A n c] 29)).bel hb0).bel hb1).bel hb2).bel hb3).al (.cells #[.int .i64 a, .slice A3 n c3] 25)).bel hb4
    have h3 := ((SlI.of_own hown3).al (.cells #[.int .i64 a, .slice A3 n c3] 25)).bel hb4
    go_wp2_with fail
    go_region_with (first
      | (go_at_call 20; refine (toInbox_c a A n c l _ (by first | exact hW | exact hW.dr | exact hW.dr.dr | exact hW.drN _) hn).mono ?_; rintro e w5 ⟨A5, c5, rfl, hown5, hb5⟩; (first | have k4 := Blk.bel k4 hb5 | have k4 := Blk.bel (Blk.dr k4) hb5 | have k4 := Blk.bel (Blk.al k4 _) hb5 | have k4 := Blk.bel (Blk.al (Blk.al k4 _) _) hb5); have c_k4 := Blk.cell k4; have f_k4 := Blk.frozen k4; (first | have kb4 := Blk.bel kb4 hb5 | have kb4 := Blk.bel (Blk.dr kb4) hb5 | have kb4 := Blk.bel (Blk.al kb4 _) hb5 | have kb4 := Blk.bel (Blk.al (Blk.al kb4 _) _) hb5); have c_kb4 := Blk.cell kb4; have f_kb4 := Blk.frozen kb4)
      | (go_at_call 21; refine (eqInbox_c a a _ _ _ _ _ _ l l _ (by first | exact h3.bel hb5 | exact (h3.bel hb5).dr | exact (h3.dr.bel hb5) | exact (h3.dr.bel hb5).dr) (by first | exact SlI.of_own hown5 | exact (SlI.of_own hown5).dr)).mono ?_; rintro e w6 ⟨rfl, hb6⟩))
    all_goals
      go_wp2_with fail
      go_ret
      exact ⟨ret_bool (by simp), by (repeat' first | exact bel_refl _ | refine bel_al ?_ _ | refine bel_dr ?_ | refine bel_drN ?_ _ | refine bel_nx ?_ (by assumption) | (refine bel_set ?_ (by first | omega | (simp; omega)) _))⟩

set_option maxRecDepth 100000 in
theorem fnExactInboxValid_l (os : Os) (started : os.Started) (H : Type) (enc : TypeId × Value → H) :
    ReturnsInHanded {} Try.checked os 4 .any (Rows.fnExactInboxValidSpec.pre6 enc Try.prog Try.f4 Rows.fnExactInboxValidRow.domain false) (Rows.fnExactInboxValidSpec.post enc Try.prog Try.f4 false true false false) := by
  refine returnsInHanded_of_change (C := Try.checked) own started (by kernel_rfl) Try.func4
    (ChangeSpec.witness6 (enc := enc) (C := Try.checked) false ⟨#[], #[.agg #[.int .i64 0, .slice none 0 0]], []⟩ 8 (by kernel_rfl) (by kernel_rfl) (by kernel_rfl) (by kernel_rfl)) ?_
  intro W base args ds gs before hval0 hW hcnd _
  have hval : ∀ (j : Nat) t v, Try.f4.params[j]? = some t → args[j]? = some v → Value.okWide Try.prog W .any base t v := hval0
  have hW' := hW
  obtain ⟨p, q, hA0, hV, rfl, hfz, hnd⟩ := hW
  have hA : DataW.TrodAll enc Try.prog W 0 (fun _ => true) true Try.f4.params.toList args.toList ds p := hA0
  rw [Try.params4] at hA hval
  obtain ⟨v0, vs0, d0, ds0, p0, q0, hargs, rfl, rfl, h0, r0⟩ := trodAll_cons hA
  obtain ⟨rfl, rfl, rfl⟩ := trodAll_nil r0
  obtain rfl : args = #[v0] := by cases args; simp_all
  obtain ⟨rfl, rfl⟩ := trodVars_none hV
  have k0 := h0
  have lt0 : ∀ x ∈ p0, x.block < W.heap.size := by obtain ⟨m, hm⟩ := k0; exact DataW.trod_lt m _ _ _ hm
  obtain ⟨c0, v0, y0, y1, m, rfl, _, _, hy0, hy1⟩ := open_agg2 Try.underlying29 (by kernel_rfl) (show Try.prog.cellsOf 29 = 2 by kernel_rfl) (hval 0 29 v0 rfl rfl) h0
  obtain ⟨a0, e0, _, wa0⟩ := DataW.trod_int Try.underlying3 hy0
  simp at e0
  subst e0
  obtain ⟨A0, n0, cc0, l0, rfl, w0⟩ := ints_cell hy1 (fun _ => rfl)
  clear hA0 hval0
  refine (exactInboxValid_w a0 A0 n0 cc0 l0 W w0 (wf_bounds wa0).1 (wf_bounds wa0).2).mono fun e W' ⟨he, bel⟩ => ?_
  subst he
  exact ⟨_, rfl, _, _, _, [], _, [], hW', trodAll_mk1 (shut_bool Try.underlying4 _), (trodAll_cons_mk (Below.trod laidOut (by kernel_rfl) (of_decide_eq_true (by kernel_rfl)) k0 bel lt0) trodAll_mk0), rfl, bel.frame _, fun h => by cases h⟩

theorem fnExactInboxValid_holds : Rows.FnExactInboxValidSaid :=
  OpenClaim.holds_of_wide 4 Try.f4 rfl rfl rfl rfl rfl rfl rfl ⟨rfl, rfl, rfl, rfl, rfl⟩ rfl rfl rfl rfl rfl (by kernel_rfl) Try.func4 (by kernel_rfl)
    (of_decide_eq_true (by kernel_rfl)) (by unfold Func.isWrapper; first | (rw [if_pos (by decide +kernel)]; kernel_rfl) | (rw [if_neg (by decide +kernel)]; exact ⟨rfl, rfl⟩))
    (fun os started H enc _ => fnExactInboxValid_l os started H enc)
#print axioms fnExactInboxValid_holds
end Go.Proofs.Ytdcojlbekpcejaa
