/- For every inbox and number the program's InboxHas returns what the reference's returns, and leaves its arguments as they were. No conditions. -/
import Derived.Test.YtdcojlbekpcejaaInboxExact
import Derived.Test.YtdcojlbekpcejaaInboxHas
namespace Go.Proofs.Ytdcojlbekpcejaa
open Go.ChangeShapes Go.WideShapes Go.ChangeAt Go.RowKit Go.Joins

set_option maxHeartbeats 400000 in
theorem exactInboxHas_w (a : Int) (A : Option Addr) (n c : Nat) (l : List Int) (x : Int) (w : World) (h : SlI w A n c l) (ha : -9223372036854775808 ≤ a) (ha2 : a ≤ 9223372036854775807) : Calls Try.prog 6 #[.agg #[.int .i64 a, .slice A n c], .int .i64 x] w fun e w' => e = .returned (.bool true) ∧ Below w.heap.size w w' := by
  have hcap := h.cap
  have hmax := h.max
  go_enter Try.func6, Try.ntmps6
  go_wp2_with fail
  refine (szInbox_c a A n c _ _ (by omega) (by omega) (by omega)).mono ?_
  rintro e w0 ⟨r, rfl, hr, hb0⟩
  have k0 := (Blk.new w 29 #[.int .i64 a, .slice A n c]).bel hb0
  have c0 := k0.cell
  have f0 := k0.frozen
  by_cases hneg : r < 0
  · go_wp2_with fail
    go_ret
    exact ⟨rfl, by (repeat' first | exact bel_refl _ | refine bel_al ?_ _ | refine bel_dr ?_ | refine bel_drN ?_ _ | refine bel_nx ?_ (by assumption) | (refine bel_set ?_ (by first | omega | (simp; omega)) _))⟩
  · have hn : n ≤ 1048576 := by omega
    go_wp2_with fail
    refine (toInbox_c a A n c l _ ((h.al _).bel hb0) hn).mono ?_
    rintro e w1 ⟨A1, c1, rfl, hown1, hb1⟩
    have k1 := k0.bel hb1
    have c1' := k1.cell
    have f1 := k1.frozen
    go_wp2_with fail
    refine (specInboxHas_c a A1 n c1 l x _ (SlI.of_own hown1) ha ha2).mono ?_
    rintro e w2 ⟨rfl, hb2⟩
    have k2 := k1.bel hb2
    have c2 := k2.cell
    have f2 := k2.frozen
    go_wp2_with fail
    refine (toInbox_c a A n c l _ ((((h.al _).bel hb0).bel hb1).bel hb2) hn).mono ?_
    rintro e w3 ⟨A3, c3, rfl, hown3, hb3⟩
    have k3 := k2.bel hb3
    have c3' := k3.cell
    have f3 := k3.frozen
    go_wp2_with fail
    have kb := Blk.new w3 25 #[.int .i64 a, .slice A3 n c3]
    refine (implInboxHas_c a A3 n c3 l x _ ((SlI.of_own hown3).al _) ha ha2).mono ?_
    rintro e w4 ⟨rfl, hb4⟩
    have k4 := (k3.al (.cells #[.int .i64 a, .slice A3 n c3] 25)).bel hb4
    have c4 := k4.cell
    have f4 := k4.frozen
    have kb4 := kb.bel hb4
    have cb4 := kb4.cell
    have fb4 := kb4.frozen
    have hW := ((((((h.al (.cells #[.int .i64 a, .slice A n c] 29)).bel hb0).bel hb1).bel hb2).bel hb3).al (.cells #[.int .i64 a, .slice A3 n c3] 25)).bel hb4
    have h3 := ((SlI.of_own hown3).al (.cells #[.int .i64 a, .slice A3 n c3] 25)).bel hb4
    go_wp2_with fail
    go_region_with (first
      | (go_at_call 20; refine (toInbox_c a A n c l _ (by first | exact hW | exact hW.dr | exact hW.dr.dr | exact hW.drN _) hn).mono ?_; rintro e w5 ⟨A5, c5, rfl, hown5, hb5⟩; (first | have k4 := Blk.bel k4 hb5 | have k4 := Blk.bel (Blk.dr k4) hb5 | have k4 := Blk.bel (Blk.al k4 _) hb5 | have k4 := Blk.bel (Blk.al (Blk.al k4 _) _) hb5); have c_k4 := Blk.cell k4; have f_k4 := Blk.frozen k4; (first | have kb4 := Blk.bel kb4 hb5 | have kb4 := Blk.bel (Blk.dr kb4) hb5 | have kb4 := Blk.bel (Blk.al kb4 _) hb5 | have kb4 := Blk.bel (Blk.al (Blk.al kb4 _) _) hb5); have c_kb4 := Blk.cell kb4; have f_kb4 := Blk.frozen kb4)
      | (go_at_call 21; refine (eqInbox_c a a _ _ _ _ _ _ l l _ (by first | exact h3.bel hb5 | exact (h3.bel hb5).dr | exact (h3.dr.bel hb5) | exact (h3.dr.bel hb5).dr) (by first | exact SlI.of_own hown5 | exact (SlI.of_own hown5).dr)).mono ?_; rintro e w6 ⟨rfl, hb6⟩))
    all_goals
      go_wp2_with fail
      go_ret
      exact ⟨ret_bool (by simp), by (repeat' first | exact bel_refl _ | refine bel_al ?_ _ | refine bel_dr ?_ | refine bel_drN ?_ _ | refine bel_nx ?_ (by assumption) | (refine bel_set ?_ (by first | omega | (simp; omega)) _))⟩

set_option maxRecDepth 100000 in
theorem fnExactInboxHas_l (os : Os) (started : os.Started) (H : Type) (enc : TypeId × Value → H) :
    ReturnsInHanded {} Try.checked os 6 .any (Rows.fnExactInboxHasSpec.pre6 enc Try.prog Try.f6 Rows.fnExactInboxHasRow.domain false) (Rows.fnExactInboxHasSpec.post enc Try.prog Try.f6 false true false false) := by
  refine returnsInHanded_of_change (C := Try.checked) own started (by kernel_rfl) Try.func6
    (ChangeSpec.witness6 (enc := enc) (C := Try.checked) false ⟨#[], #[.agg #[.int .i64 0, .slice none 0 0], .int .i64 0], []⟩ 8 (by kernel_rfl) (by kernel_rfl) (by kernel_rfl) (by kernel_rfl)) ?_
  intro W base args ds gs before hval0 hW hcnd _
  have hval : ∀ (j : Nat) t v, Try.f6.params[j]? = some t → args[j]? = some v → Value.okWide Try.prog W .any base t v := hval0
  have hW' := hW
  obtain ⟨p, q, hA0, hV, rfl, hfz, hnd⟩ := hW
  have hA : DataW.TrodAll enc Try.prog W 0 (fun _ => true) true Try.f6.params.toList args.toList ds p := hA0
  rw [Try.params6] at hA hval
  obtain ⟨v0, vs0, d0, ds0, p0, q0, hargs, rfl, rfl, h0, r0⟩ := trodAll_cons hA
  obtain ⟨v1, vs1, d1, ds1, p1, q1, rfl, rfl, rfl, h1, r1⟩ := trodAll_cons r0
  obtain ⟨rfl, rfl, rfl⟩ := trodAll_nil r1
  obtain rfl : args = #[v0, v1] := by cases args; simp_all
  obtain ⟨rfl, rfl⟩ := trodVars_none hV
  have k0 := h0
  have lt0 : ∀ x ∈ p0, x.block < W.heap.size := by obtain ⟨m, hm⟩ := k0; exact DataW.trod_lt m _ _ _ hm
  obtain ⟨c0, v0, y0, y1, m, rfl, _, _, hy0, hy1⟩ := open_agg2 Try.underlying29 (by kernel_rfl) (show Try.prog.cellsOf 29 = 2 by kernel_rfl) (hval 0 29 v0 rfl rfl) h0
  obtain ⟨a0, e0, _, wa0⟩ := DataW.trod_int Try.underlying3 hy0
  simp at e0
  subst e0
  obtain ⟨A0, n0, cc0, l0, rfl, w0⟩ := ints_cell hy1 (fun _ => rfl)
  have k1 := h1
  have lt1 : ∀ x ∈ p1, x.block < W.heap.size := by obtain ⟨m, hm⟩ := k1; exact DataW.trod_lt m _ _ _ hm
  obtain ⟨x1, rfl, _, _, wx1⟩ := open_int Try.underlying3 (hval 1 3 v1 rfl rfl) h1
  clear hA0 hval0
  refine (exactInboxHas_w a0 A0 n0 cc0 l0 x1 W w0 (wf_bounds wa0).1 (wf_bounds wa0).2).mono fun e W' ⟨he, bel⟩ => ?_
  subst he
  exact ⟨_, rfl, _, _, _, [], _, [], hW', trodAll_mk1 (shut_bool Try.underlying4 _), (trodAll_cons_mk (Below.trod laidOut (by kernel_rfl) (of_decide_eq_true (by kernel_rfl)) k0 bel lt0) (trodAll_cons_mk (Below.trod laidOut (by kernel_rfl) (of_decide_eq_true (by kernel_rfl)) k1 bel lt1) trodAll_mk0)), rfl, bel.frame _, fun h => by cases h⟩

theorem fnExactInboxHas_holds : Rows.FnExactInboxHasSaid :=
  OpenClaim.holds_of_wide 6 Try.f6 rfl rfl rfl rfl rfl rfl rfl ⟨rfl, rfl, rfl, rfl, rfl⟩ rfl rfl rfl rfl rfl (by kernel_rfl) Try.func6 (by kernel_rfl)
    (of_decide_eq_true (by kernel_rfl)) (by unfold Func.isWrapper; first | (rw [if_pos (by decide +kernel)]; kernel_rfl) | (rw [if_neg (by decide +kernel)]; exact ⟨rfl, rfl⟩))
    (fun os started H enc _ => fnExactInboxHas_l os started H enc)
#print axioms fnExactInboxHas_holds
end Go.Proofs.Ytdcojlbekpcejaa
