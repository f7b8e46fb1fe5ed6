/- For every inbox and number the program's InboxTake returns what the reference's returns, leaves its argument as it was, and shares no memory. No conditions. -/
import Derived.Test.YtdcojlbekpcejaaInboxWaitsExact
namespace Go.Proofs.Ytdcojlbekpcejaa
open Go.ChangeShapes Go.WideShapes Go.ChangeAt Go.RowKit Go.Joins

theorem take_len {a x b : Int} {l m : List Int} {f g : Bool} (h : takeF a l x = (b, m, f, g)) : m.length ≤ 6 := by
  cases g
  · have h0 : m = [] := by
      unfold takeF at h
      split at h
      · split at h
        · injection h with _ h2; injection h2 with _ h3; injection h3 with _ h4; cases h4
        · split at h
          · injection h with _ h2; injection h2 with _ h3; injection h3 with _ h4; cases h4
          · injection h with _ h2; injection h2 with h3 _; exact h3.symm
      · injection h with _ h2; injection h2 with h3 _; exact h3.symm
    rw [h0]; simp
  · exact (inb_iff.1 (take_ok h).2.2.2.1).2.2.1

set_option maxRecDepth 20000 in
set_option maxHeartbeats 4000000 in
theorem exactInboxTake_w (a : Int) (A : Option Addr) (n c : Nat) (l : List Int) (x : Int) (w : World) (h : SlI w A n c l) (ha : -9223372036854775808 ≤ a) (ha2 : a ≤ 9223372036854775807) : Calls Try.prog 15 #[.agg #[.int .i64 a, .slice A n c], .int .i64 x] w fun e w' => e = .returned (.bool true) ∧ Below w.heap.size w w' := by
  have hcap := h.cap
  have hmax := h.max
  obtain ⟨⟨p, lp, f, ok⟩, hT⟩ : ∃ R, takeF a l x = R := ⟨_, rfl⟩
  have HTL := Lib.hid (take_len hT)
  have HT := Lib.hid hT
  clear hT
  go_enter Try.func15, Try.ntmps15
  go_wp2_with fail
  have h := h.al (.cells #[.int .i64 a, .slice A n c] 29)
  have hBw := bel_al (bel_refl w) (.cells #[.int .i64 a, .slice A n c] 29)
  have ka := Blk.new w 29 #[.int .i64 a, .slice A n c]
  refine (szInbox_c a A n c _ _ (by omega) (by omega) (by omega)).mono ?_
  rintro e w0 ⟨r, rfl, hr, hb0⟩
  have h := h.bel hb0
  have hBw := bel_nx hBw hb0
  have ka := ka.bel hb0
  have c_ka := ka.cell
  have f_ka := ka.frozen
  clear hb0
  by_cases hneg : r < 0
  · go_wp2_with fail
    go_ret
    exact ⟨rfl, hBw⟩
  have hn : n ≤ 1048576 := by omega
  go_wp2_with fail
  refine (toInbox_c a A n c l _ h hn).mono ?_
  rintro e w1 ⟨A1, c1, rfl, hown1, hb1⟩
  have h := h.bel hb1
  have hBw := bel_nx hBw hb1
  have ka := ka.bel hb1
  have c_ka := ka.cell
  have f_ka := ka.frozen
  clear hb1
  go_wp2_with fail
  refine (specInboxTake_c a A1 n c1 l x _ (SlI.of_own hown1) ha ha2).mono ?_
  rw [HT.out]
  rintro e w2 ⟨Q, qn, qc, rfl, hQ, hqb, hb2⟩
  have HA := Lib.hid (h.bel hb2)
  have HB := Lib.hid (bel_nx hBw hb2)
  have HK := Lib.hid (ka.bel hb2)
  have HQ := Lib.hid hQ
  have ka := ka.bel hb2
  have c_ka := ka.cell
  have f_ka := ka.frozen
  clear hb2 hown1 h hBw hQ hqb
  go_wp2_with fail
  have kw := Blk.new w2 25 #[.int .i64 p, .slice Q qn qc]
  have B2 := bel_al (bel_refl w2) (.cells #[.int .i64 p, .slice Q qn qc] 25)
  refine (toInbox_c a A n c l _ (HA.out.bel B2) hn).mono ?_
  rintro e w3 ⟨AX, cX, rfl, hX, hb3⟩
  have B2 := bel_nx B2 hb3
  have kw := kw.bel hb3
  have ka := HK.out.bel B2
  have c_ka := ka.cell
  have f_ka := ka.frozen
  have c_kw := kw.cell
  have f_kw := kw.frozen
  clear hb3
  go_wp2_with fail
  have kx := Blk.new w3 25 #[.int .i64 a, .slice AX n cX]
  have kw := kw.al (.cells #[.int .i64 a, .slice AX n cX] 25)
  have hX := hX.alloc (.cells #[.int .i64 a, .slice AX n cX] 25)
  have B2 := bel_al B2 (.cells #[.int .i64 a, .slice AX n cX] 25)
  have z3 := B2.size
  have hX3 := hX
  refine (implInboxTake_c a AX n cX l x _ (SlI.of_own hX) ha ha2).mono ?_
  rw [HT.out]
  rintro e w4 ⟨G, gn, gc, rfl, hG, hb4⟩
  have HGX := Lib.hid (own_apart hX3 hG (Nat.le_refl _)).2
  have hgn : gn ≤ 6 := by have := hG.1; simp at this; have := HTL.out; omega
  have kx := kx.bel hb4
  have kw := kw.bel hb4
  have hX := ownsRow_base (own_bel hX hb4) (B' := w2.heap.size) (by simp)
  have hG := ownsRow_base hG z3
  have B2 := bel_nx B2 hb4
  have ka := HK.out.bel B2
  have c_ka := ka.cell
  have f_ka := ka.frozen
  have c_kw := kw.cell
  have f_kw := kw.frozen
  have c_kx := kx.cell
  have f_kx := kx.frozen
  clear hb4 hX3 z3
  go_wp2_with fail
  have kg := Blk.new w4 25 #[.int .i64 p, .slice G gn gc]
  have kw := kw.al (.cells #[.int .i64 p, .slice G gn gc] 25)
  have kx := kx.al (.cells #[.int .i64 p, .slice G gn gc] 25)
  have hX := hX.alloc (.cells #[.int .i64 p, .slice G gn gc] 25)
  have hG := hG.alloc (.cells #[.int .i64 p, .slice G gn gc] 25)
  have B2 := bel_al B2 (.cells #[.int .i64 p, .slice G gn gc] 25)
  have ka := HK.out.bel B2
  refine (eqInbox_same p G Q gn gc qn qc lp _ (SlI.of_own hG) (HQ.out.bel B2)).mono ?_
  rintro e w5 ⟨rfl, hb5⟩
  have kw := kw.bel hb5
  have kx := kx.bel hb5
  have kg := kg.bel hb5
  have hX := own_bel hX hb5
  have hG := own_bel hG hb5
  have B2 := bel_nx B2 hb5
  have ka := HK.out.bel B2
  have c_ka := ka.cell
  have f_ka := ka.frozen
  have c_kw := kw.cell
  have f_kw := kw.frozen
  have c_kx := kx.cell
  have f_kx := kx.frozen
  have c_kg := kg.cell
  have f_kg := kg.frozen
  clear hb5
  go_wp2_with fail
  go_region_held3 (fun w' => w'.cell? ⟨w3.heap.size, 0, none⟩ = some (.int .i64 a) ∧ w'.cell? ⟨w3.heap.size, 1, none⟩ = some (.slice AX n cX) ∧ w'.cell? ⟨w.heap.size, 0, none⟩ = some (.int .i64 a) ∧ w'.cell? ⟨w.heap.size, 1, none⟩ = some (.slice A n c) ∧ Blk w' w3.heap.size 25 #[.int .i64 a, .slice AX n cX] ∧ Blk w' w2.heap.size 25 #[.int .i64 p, .slice Q qn qc] ∧ Blk w' w4.heap.size 25 #[.int .i64 p, .slice G gn gc] ∧ w'.ownsRow w2.heap.size 3 1 (.slice AX n cX) n (l.map (Value.int .i64)) ∧ w'.ownsRow w2.heap.size 3 1 (.slice G gn gc) gn (lp.map (Value.int .i64)) ∧ Below w2.heap.size w2 w') (first | (refine ⟨?_, ?_, ?_, ?_, ?_, ?_, ?_, ?_, ?_, ?_⟩ <;> (first | exact c_kx 0 | exact c_kx 1 | exact c_ka 0 | exact c_ka 1 | exact kx | exact kw | exact kg | exact hX | exact hG | exact hX.drew | exact hG.drew | exact bel_dr B2)) | (go_split_ands; refine ⟨?_, ?_, ?_, ?_, ?_, ?_, ?_, ?_, ?_, ?_⟩ <;> (first | exact cell_on hb7 (by assumption) | exact Blk.bel (by assumption) hb7 | exact own_bel (by assumption) hb7 | exact bel_nx (by assumption) hb7)) | (go_split_ands; refine ⟨?_, ?_, ?_, ?_, ?_, ?_, ?_, ?_, ?_, ?_⟩ <;> (first | exact cell_on hb6 (by assumption) | exact Blk.bel (by assumption) hb6 | exact own_bel (by assumption) hb6 | exact bel_nx (by assumption) hb6))) ((first | (go_at_call 20; refine (toInbox_c a A n c l _ (by go_split_ands; exact HA.out.bel (by assumption)) hn).mono ?_; rintro e w6 ⟨A6, c6, rfl, hown6, hb6⟩) | (go_at_call 21; refine (eqInbox_same a AX A6 n cX n c6 l _ (by go_split_ands; exact SlI.of_own (l := l) (by assumption)) (by first | exact SlI.of_own hown6 | exact (SlI.of_own hown6).dr)).mono ?_; rintro e w7 ⟨rfl, hb7⟩)))
  go_split_ands
  clear ka kx kw kg hX hG B2 c_ka f_ka c_kx f_kx c_kw f_kw c_kg f_kg
  have kx : Blk w7 w3.heap.size 25 #[.int .i64 a, .slice AX n cX] := by assumption
  have kw : Blk w7 w2.heap.size 25 #[.int .i64 p, .slice Q qn qc] := by assumption
  have kg : Blk w7 w4.heap.size 25 #[.int .i64 p, .slice G gn gc] := by assumption
  have hX : w7.ownsRow w2.heap.size 3 1 (.slice AX n cX) n (l.map (Value.int .i64)) := by assumption
  have hG : w7.ownsRow w2.heap.size 3 1 (.slice G gn gc) gn (lp.map (Value.int .i64)) := by assumption
  have B2 : Below w2.heap.size w2 w7 := by assumption
  have ka := HK.out.bel B2
  clear hb6 hb7 hown6
  have c_ka := ka.cell
  have f_ka := ka.frozen
  have c_kw := kw.cell
  have f_kw := kw.frozen
  have c_kx := kx.cell
  have f_kx := kx.frozen
  have c_kg := kg.cell
  have f_kg := kg.frozen
  go_wp2_with fail
  refine (markInbox_c w2.heap.size a AX n cX 1 l _ hX (by omega)).mono ?_
  rintro e w8 ⟨rfl, hX8, hg8⟩
  have kw := kw.gr hg8 (fun e => own_ne_blk hX kw (by decide) e.symm)
  have kg := kg.gr hg8 (fun e => own_ne_blk hX kg (by decide) e.symm)
  have hG := hG.kept hg8 HGX.out
  have B2 := B2.grown hg8 B2.size (fun k hk => (hX.lt k hk).1)
  have ka := HK.out.bel B2
  have c_ka := ka.cell
  have f_ka := ka.frozen
  have c_kw := kw.cell
  have f_kw := kw.frozen
  have c_kg := kg.cell
  have f_kg := kg.frozen
  have q0 : (0 : Int) ≤ ((1 + n : Nat) : Int) := by omega
  have q1 : decide (((1 + n : Nat) : Int) < 0) = false := decide_eq_false (by omega)
  go_wp2_with fail
  refine (eqInbox_same p G Q gn gc qn qc lp _ (SlI.of_own hG) (HQ.out.bel B2)).mono ?_
  rintro e w9 ⟨rfl, hb9⟩
  have kw := kw.bel hb9
  have kg := kg.bel hb9
  have hG := own_bel hG hb9
  have B2 := bel_nx B2 hb9
  have ka := HK.out.bel B2
  have c_ka := ka.cell
  have f_ka := ka.frozen
  have c_kw := kw.cell
  have f_kw := kw.frozen
  have c_kg := kg.cell
  have f_kg := kg.frozen
  go_wp2_with fail
  refine (markInbox_c w2.heap.size p G gn gc 1 lp _ hG (by omega)).mono ?_
  rintro e w10 ⟨rfl, hG10, hg10⟩
  have kw := kw.gr hg10 (fun e => own_ne_blk hG kw (by decide) e.symm)
  have kg := kg.gr hg10 (fun e => own_ne_blk hG kg (by decide) e.symm)
  have B2 := B2.grown hg10 B2.size (fun k hk => (hG.lt k hk).1)
  have ka := HK.out.bel B2
  have c_ka := ka.cell
  have f_ka := ka.frozen
  have c_kw := kw.cell
  have f_kw := kw.frozen
  have c_kg := kg.cell
  have f_kg := kg.frozen
  have r0 : (0 : Int) ≤ ((1 + gn : Nat) : Int) := by omega
  have r1 : decide (((1 + gn : Nat) : Int) < 0) = false := decide_eq_false (by omega)
  go_wp2_with fail
  refine (heldInbox_c p G gn gc 1 _ (SlI.of_own hG10) (by omega)).mono ?_
  rintro e w11 ⟨rfl, hb11⟩
  have kw := kw.bel hb11
  have kg := kg.bel hb11
  have hG := own_bel hG10 hb11
  have B2 := bel_nx B2 hb11
  have ka := HK.out.bel B2
  have c_ka := ka.cell
  have f_ka := ka.frozen
  have c_kw := kw.cell
  have f_kw := kw.frozen
  have c_kg := kg.cell
  have f_kg := kg.frozen
  go_wp2_with fail
  refine (toInbox_c a A n c l _ (HA.out.bel B2) hn).mono ?_
  rintro e w12 ⟨A12, c12, rfl, ho12, hb12⟩
  have kw := kw.bel hb12
  have kg := kg.bel hb12
  have hG := own_bel hG hb12
  have B2 := bel_nx B2 hb12
  have c_kw := kw.cell
  have f_kw := kw.frozen
  have c_kg := kg.cell
  have f_kg := kg.frozen
  go_wp2_with fail
  refine (implInboxTake_c a A12 n c12 l x _ (SlI.of_own ho12) ha ha2).mono ?_
  rw [HT.out]
  rintro e w13 ⟨R, rn, rc, rfl, hR, hb13⟩
  have kw := kw.bel hb13
  have kg := kg.bel hb13
  have hG := own_bel hG hb13
  have B2 := bel_nx B2 hb13
  have c_kw := kw.cell
  have f_kw := kw.frozen
  have c_kg := kg.cell
  have f_kg := kg.frozen
  go_wp2_with fail
  have kh := Blk.new w13 25 #[.int .i64 p, .slice R rn rc]
  have kw := kw.al (.cells #[.int .i64 p, .slice R rn rc] 25)
  have kg := kg.al (.cells #[.int .i64 p, .slice R rn rc] 25)
  have hG := hG.alloc (.cells #[.int .i64 p, .slice R rn rc] 25)
  have hR := hR.alloc (.cells #[.int .i64 p, .slice R rn rc] 25)
  have B2 := bel_al B2 (.cells #[.int .i64 p, .slice R rn rc] 25)
  refine (eqInbox_same p R Q rn rc qn qc lp _ (SlI.of_own hR) (HQ.out.bel B2)).mono ?_
  rintro e w14 ⟨rfl, hb14⟩
  have kg := kg.bel hb14
  have hG := own_bel hG hb14
  have B2 := bel_nx B2 hb14
  have c_kg := kg.cell
  have f_kg := kg.frozen
  go_wp2_with fail
  refine (heldInbox_c p G gn gc 1 _ (SlI.of_own hG) (by omega)).mono ?_
  rintro e w15 ⟨rfl, hb15⟩
  go_wp2_with fail
  go_ret
  exact ⟨rfl, bel_nx (bel_nx HB.out B2) hb15⟩

set_option maxRecDepth 100000 in
theorem fnExactInboxTake_l (os : Os) (started : os.Started) (H : Type) (enc : TypeId × Value → H) :
    ReturnsInHanded {} Try.checked os 15 .any (Rows.fnExactInboxTakeSpec.pre6 enc Try.prog Try.f15 Rows.fnExactInboxTakeRow.domain false) (Rows.fnExactInboxTakeSpec.post enc Try.prog Try.f15 false true false false) := by
  refine returnsInHanded_of_change (C := Try.checked) own started (by kernel_rfl) Try.func15
    (ChangeSpec.witness6 (enc := enc) (C := Try.checked) false ⟨#[], #[.agg #[.int .i64 0, .slice none 0 0], .int .i64 0], []⟩ 8 (by kernel_rfl) (by kernel_rfl) (by kernel_rfl) (by kernel_rfl)) ?_
  intro W base args ds gs before hval0 hW hcnd _
  have hval : ∀ (j : Nat) t v, Try.f15.params[j]? = some t → args[j]? = some v → Value.okWide Try.prog W .any base t v := hval0
  have hW' := hW
  obtain ⟨p, q, hA0, hV, rfl, hfz, hnd⟩ := hW
  have hA : DataW.TrodAll enc Try.prog W 0 (fun _ => true) true Try.f15.params.toList args.toList ds p := hA0
  rw [Try.params15] at hA hval
  obtain ⟨v0, vs0, d0, ds0, p0, q0, hargs, rfl, rfl, h0, r0⟩ := trodAll_cons hA
  obtain ⟨v1, vs1, d1, ds1, p1, q1, rfl, rfl, rfl, h1, r1⟩ := trodAll_cons r0
  obtain ⟨rfl, rfl, rfl⟩ := trodAll_nil r1
  obtain rfl : args = #[v0, v1] := by cases args; simp_all
  obtain ⟨rfl, rfl⟩ := trodVars_none hV
  have k0 := h0
  have lt0 : ∀ x ∈ p0, x.block < W.heap.size := by obtain ⟨m, hm⟩ := k0; exact DataW.trod_lt m _ _ _ hm
  obtain ⟨c0, v0, y0, y1, m, rfl, _, _, hy0, hy1⟩ := open_agg2 Try.underlying29 (by kernel_rfl) (show Try.prog.cellsOf 29 = 2 by kernel_rfl) (hval 0 29 v0 rfl rfl) h0
  obtain ⟨a0, e0, _, wa0⟩ := DataW.trod_int Try.underlying3 hy0
  simp at e0
  subst e0
  obtain ⟨A0, n0, cc0, l0, rfl, w0⟩ := ints_cell hy1 (fun _ => rfl)
  have k1 := h1
  have lt1 : ∀ x ∈ p1, x.block < W.heap.size := by obtain ⟨m, hm⟩ := k1; exact DataW.trod_lt m _ _ _ hm
  obtain ⟨x1, rfl, _, _, wx1⟩ := open_int Try.underlying3 (hval 1 3 v1 rfl rfl) h1
  clear hA0 hval0
  refine (exactInboxTake_w a0 A0 n0 cc0 l0 x1 W w0 (wf_bounds wa0).1 (wf_bounds wa0).2).mono fun e W' ⟨he, bel⟩ => ?_
  subst he
  exact ⟨_, rfl, _, _, _, [], _, [], hW', trodAll_mk1 (shut_bool Try.underlying4 _), (trodAll_cons_mk (Below.trod laidOut (by kernel_rfl) (of_decide_eq_true (by kernel_rfl)) k0 bel lt0) (trodAll_cons_mk (Below.trod laidOut (by kernel_rfl) (of_decide_eq_true (by kernel_rfl)) k1 bel lt1) trodAll_mk0)), rfl, bel.frame _, fun h => by cases h⟩

theorem fnExactInboxTake_holds : Rows.FnExactInboxTakeSaid :=
  OpenClaim.holds_of_wide 15 Try.f15 rfl rfl rfl rfl rfl rfl rfl ⟨rfl, rfl, rfl, rfl, rfl⟩ rfl rfl rfl rfl rfl (by kernel_rfl) Try.func15 (by kernel_rfl)
    (of_decide_eq_true (by kernel_rfl)) (by unfold Func.isWrapper; first | (rw [if_pos (by decide +kernel)]; kernel_rfl) | (rw [if_neg (by decide +kernel)]; exact ⟨rfl, rfl⟩))
    (fun os started H enc _ => fnExactInboxTake_l os started H enc)
#print axioms fnExactInboxTake_holds
end Go.Proofs.Ytdcojlbekpcejaa
