/- For every flow the program's UndoSafe returns what the reference's returns, and leaves its argument as it was. No conditions. -/
import Derived.Test.YtdchfiiaollheaaFlowTo2
import Derived.Test.YtdchfiiaollheaaFlowRow
import Derived.Test.YtdchfiiaollheaaSafeS
import Derived.Test.YtdchfiiaollheaaSafeI
namespace Go.Proofs.Ytdchfiiaollheaa
open Go.ChangeShapes Go.WideShapes Go.ChangeAt Go.RowKit Go.Joins

set_option maxRecDepth 20000 in
set_option maxHeartbeats 8000000 in
theorem exactUndoSafe_w (v : Int) (A : Option Addr) (n c : Nat) (l : List Stp) (w : World) (h : SlP w A n c l) (hz : SzP l) : Calls Try.prog 4 #[.agg #[.int .i64 v, .slice A n c]] w fun e w' =>
    e = .returned (.bool true) ∧ Below w.heap.size w w' := by
  have kf := Blk.new w 34 #[.int .i64 v, .slice A n c]
  have hB := bel_al (bel_refl w) (.cells #[.int .i64 v, .slice A n c] 34)
  obtain ⟨bs, hbs⟩ : ∃ q, safeB v l = q := ⟨_, rfl⟩
  have HS := Lib.hid hbs
  clear hbs
  have ebb : (bs != bs) = false := by cases bs <;> rfl
  go_enter Try.func4, Try.ntmps4
  go_wp2_with fail
  refine (szFlow_c v A n c l _ 1048576 (h.bel hB) hz (by omega) (by omega)).mono ?_
  rintro e w1 ⟨r, rfl, hr, hb1⟩
  have kf := kf.bel hb1
  have hB := bel_nx hB hb1
  have cf := kf.cell
  rcases hr with hr | ⟨hr0, hr1, hr2, hsh0⟩
  · go_wp2_with fail
    go_ret
    exact ⟨rfl, hB⟩
  have HSH := Lib.hid hsh0
  have hn : n ≤ 1048576 := by omega
  clear hsh0
  go_wp2_with fail
  refine (toFlow_c v A n c l _ (h.bel hB) hn HSH.out).mono ?_
  rintro e w2 ⟨D, dc, rfl, hD, hb2⟩
  have kf := kf.bel hb2
  have hB := bel_nx hB hb2
  have cf := kf.cell
  go_wp2_with fail
  refine (specUndoSafe_c v D n dc l _ hD.read hz hn).mono ?_
  rintro e w3 ⟨rfl, hb3⟩
  rw [HS.out]
  have kf := kf.bel hb3
  have hB := bel_nx hB hb3
  have cf := kf.cell
  go_wp2_with fail
  refine (toFlow_c v A n c l _ (h.bel hB) hn HSH.out).mono ?_
  rintro e w4 ⟨X, xc, rfl, hX, hb4⟩
  have kf := kf.bel hb4
  have hB := bel_nx hB hb4
  have kx := Blk.new w4 25 #[.int .i64 v, .slice X n xc]
  obtain ⟨bx, hbx⟩ : ∃ b, b = w4.heap.size := ⟨_, rfl⟩
  have hX := hX.al (.cells #[.int .i64 v, .slice X n xc] 25)
  have kf := kf.al (.cells #[.int .i64 v, .slice X n xc] 25)
  have hB := bel_al hB (.cells #[.int .i64 v, .slice X n xc] 25)
  go_wp2_with fail
  rw [← hbx] at kx ⊢
  obtain ⟨wX, hwX⟩ : ∃ W, W = w4.alloc (.cells #[.int .i64 v, .slice X n xc] 25) := ⟨_, rfl⟩
  rw [← hwX] at kx hX kf hB ⊢
  clear hwX hbx
  refine (implUndoSafe_c v X n xc l _ hX.read hz).mono ?_
  rintro e w5 ⟨rfl, hb5⟩
  rw [HS.out]
  have kf := kf.bel hb5
  have kx := kx.bel hb5
  have hX := hX.bel hb5
  have hB := bel_nx hB hb5
  have cf := kf.cell
  have cx := kx.cell
  go_wp2_with fail
  have x0 : w5.cell? ⟨w.heap.size, 0, none⟩ = some (.int .i64 v) := kf.cell 0
  have x1 : w5.cell? ⟨w.heap.size, 1, none⟩ = some (.slice A n c) := kf.cell 1
  have x2 : w5.cell? ⟨bx, 0, none⟩ = some (.int .i64 v) := kx.cell 0
  have x3 : w5.cell? ⟨bx, 1, none⟩ = some (.slice X n xc) := kx.cell 1
  have xs : w5.drew.cell? ⟨w.heap.size, 0, none⟩ = some (.int .i64 v) ∧ w5.drew.cell? ⟨w.heap.size, 1, none⟩ = some (.slice A n c) ∧ w5.drew.cell? ⟨bx, 0, none⟩ = some (.int .i64 v) ∧ w5.drew.cell? ⟨bx, 1, none⟩ = some (.slice X n xc) := ⟨x0, x1, x2, x3⟩
  go_region_held3 (fun w' => w'.cell? ⟨w.heap.size, 0, none⟩ = some (.int .i64 v) ∧ w'.cell? ⟨w.heap.size, 1, none⟩ = some (.slice A n c) ∧ w'.cell? ⟨bx, 0, none⟩ = some (.int .i64 v) ∧ w'.cell? ⟨bx, 1, none⟩ = some (.slice X n xc)) (first | with_reducible exact xs | with_reducible exact zs | with_reducible exact ys) ((first
    | (go_at_call 20; refine (toFlow_c v A n c l _ (h.bel (bel_dr hB)) hn HSH.out).mono ?_; rintro e w6 ⟨E, ec, rfl, hE, hb6⟩; have hb6 : Below w5.heap.size w5 w6 := (by with_reducible exact bel_nx (bel_dr (bel_refl w5)) hb6); have ys : w6.cell? ⟨w.heap.size, 0, none⟩ = some (.int .i64 v) ∧ w6.cell? ⟨w.heap.size, 1, none⟩ = some (.slice A n c) ∧ w6.cell? ⟨bx, 0, none⟩ = some (.int .i64 v) ∧ w6.cell? ⟨bx, 1, none⟩ = some (.slice X n xc) := ⟨cell_on hb6 x0, cell_on hb6 x1, cell_on hb6 x2, cell_on hb6 x3⟩)
    | (go_at_call 21; refine (eqFlow_same v X E n xc n ec l _ (hX.bel hb6).read hE.read).mono ?_; rintro e w7 ⟨rfl, hb7⟩; have zs : w7.cell? ⟨w.heap.size, 0, none⟩ = some (.int .i64 v) ∧ w7.cell? ⟨w.heap.size, 1, none⟩ = some (.slice A n c) ∧ w7.cell? ⟨bx, 0, none⟩ = some (.int .i64 v) ∧ w7.cell? ⟨bx, 1, none⟩ = some (.slice X n xc) := ⟨cell_on hb7 ys.1, cell_on hb7 ys.2.1, cell_on hb7 ys.2.2.1, cell_on hb7 ys.2.2.2⟩)))
  go_wp2_with fail
  go_ret
  exact ⟨rfl, bel_nx (bel_nx hB hb6) hb7⟩

set_option maxRecDepth 100000 in
theorem fnExactUndoSafe_l (os : Os) (started : os.Started) (H : Type) (enc : TypeId × Value → H) :
    ReturnsInHanded {} Try.checked os 4 .any (Rows.fnExactUndoSafeSpec.pre6 enc Try.prog Try.f4 Rows.fnExactUndoSafeRow.domain false) (Rows.fnExactUndoSafeSpec.post enc Try.prog Try.f4 false true false false) := by
  refine returnsInHanded_of_change (C := Try.checked) own started (by kernel_rfl) Try.func4
    (ChangeSpec.witness6 (enc := enc) (C := Try.checked) false ⟨#[], #[.agg #[.int .i64 0, .slice none 0 0]], []⟩ 8 (by kernel_rfl) (by kernel_rfl) (by kernel_rfl) (by kernel_rfl)) ?_
  intro W base args ds gs before hval0 hW hcnd _
  have hval : ∀ (j : Nat) t v, Try.f4.params[j]? = some t → args[j]? = some v → Value.okWide Try.prog W .any base t v := hval0
  have hW' := hW
  obtain ⟨p, q, hA0, hV, rfl, hfz, hnd⟩ := hW
  have hA : DataW.TrodAll enc Try.prog W 0 (fun _ => true) true Try.f4.params.toList args.toList ds p := hA0
  rw [Try.params4] at hA hval
  obtain ⟨v0, vs0, d0, ds0, p0, q0, hargs, rfl, rfl, h0, r0⟩ := trodAll_cons hA
  obtain ⟨rfl, rfl, rfl⟩ := trodAll_nil r0
  obtain rfl : args = #[v0] := by cases args; simp_all
  obtain ⟨rfl, rfl⟩ := trodVars_none hV
  have k0 := h0
  have lt0 : ∀ x ∈ p0, x.block < W.heap.size := by obtain ⟨m, hm⟩ := k0; exact DataW.trod_lt m _ _ _ hm
  obtain ⟨c0, v0, y0, y1, m, rfl, _, _, hy0, hy1⟩ := open_agg2 Try.underlying34 (by kernel_rfl) (show Try.prog.cellsOf 34 = 2 by kernel_rfl) (hval 0 34 v0 rfl rfl) h0
  obtain ⟨a0, e0, _, wa0⟩ := DataW.trod_int Try.underlying3 hy0
  simp at e0
  subst e0
  obtain ⟨A0, n0, cc0, l0, ev, w0, z0⟩ := steps_read hy1 (fun _ => rfl)
  simp at ev
  subst ev
  clear hA0 hval0
  refine (exactUndoSafe_w a0 A0 n0 cc0 l0 W w0 z0).mono fun e W' ⟨he, bel⟩ => ?_
  subst he
  exact ⟨_, rfl, _, _, _, [], _, [], hW', trodAll_mk1 (shut_bool Try.underlying4 _), (trodAll_cons_mk (Below.trod laidOut (by kernel_rfl) (of_decide_eq_true (by kernel_rfl)) k0 bel lt0) trodAll_mk0), rfl, bel.frame _, fun h => by cases h⟩

theorem fnExactUndoSafe_holds : Rows.FnExactUndoSafeSaid :=
  OpenClaim.holds_of_wide 4 Try.f4 rfl rfl rfl rfl rfl rfl rfl ⟨rfl, rfl, rfl, rfl, rfl⟩ rfl rfl rfl rfl rfl (by kernel_rfl) Try.func4 (by kernel_rfl)
    (of_decide_eq_true (by kernel_rfl)) (by unfold Func.isWrapper; first | (rw [if_pos (by decide +kernel)]; kernel_rfl) | (rw [if_neg (by decide +kernel)]; exact ⟨rfl, rfl⟩))
    (fun os started H enc _ => fnExactUndoSafe_l os started H enc)
#print axioms fnExactUndoSafe_holds

end Go.Proofs.Ytdchfiiaollheaa
