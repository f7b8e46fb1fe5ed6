/- For every inbox the program's InboxWaits returns what the reference's returns, leaves its argument as it was, and shares no memory. No conditions. -/
import Derived.Test.YtdcojlbekpcejaaInboxExact
import Derived.Test.YtdcojlbekpcejaaInboxSame
import Derived.RegionTactic
namespace Go.Proofs.Ytdcojlbekpcejaa
open Go.ChangeShapes Go.WideShapes Go.ChangeAt Go.RowKit Go.Joins

/-- A row that was there before another one was made lies elsewhere. -/
theorem own_apart {w1 w2 : World} {B1 B2 : Nat} {e1 e2 : TypeId} {s1 s2 : Nat} {v1 v2 : Value} {n1 n2 : Nat} {x1 x2 : List Value} (h1 : w1.ownsRow B1 e1 s1 v1 n1 x1) (h2 : w2.ownsRow B2 e2 s2 v2 n2 x2) (hB : w1.heap.size ≤ B2) :
    (v1.ownBlock = none ∨ v1.ownBlock ≠ v2.ownBlock) ∧ (v2.ownBlock = none ∨ v2.ownBlock ≠ v1.ownBlock) := by
  constructor
  · rcases h : v1.ownBlock with _ | k
    · exact .inl rfl
    · refine .inr fun e => ?_
      have a := (h1.lt k h).2
      have b := (h2.lt k e.symm).1
      omega
  · rcases h : v2.ownBlock with _ | k
    · exact .inl rfl
    · refine .inr fun e => ?_
      have a := (h2.lt k h).1
      have b := (h1.lt k e.symm).2
      omega

set_option maxRecDepth 20000 in
set_option maxHeartbeats 2000000 in
theorem exactInboxWaits_w (a : Int) (A : Option Addr) (n c : Nat) (l : List Int) (w : World) (h : SlI w A n c l) (ha : -9223372036854775808 ≤ a) (ha2 : a ≤ 9223372036854775807) : Calls Try.prog 8 #[.agg #[.int .i64 a, .slice A n c]] w fun e w' => e = .returned (.bool true) ∧ Below w.heap.size w w' := by
  have hcap := h.cap
  have hmax := h.max
  have HH := Lib.hid h
  go_enter Try.func8, Try.ntmps8
  go_wp2_with fail
  have h := h.al (.cells #[.int .i64 a, .slice A n c] 29)
  have hBw := bel_al (bel_refl w) (.cells #[.int .i64 a, .slice A n c] 29)
  have ka := Blk.new w 29 #[.int .i64 a, .slice A n c]
  refine (szInbox_c a A n c _ _ (by omega) (by omega) (by omega)).mono ?_
  rintro e w0 ⟨r, rfl, hr, hb0⟩
  have h := h.bel hb0
  have hBw := bel_nx hBw hb0
  have ka := ka.bel hb0
  have c_ka := ka.cell
  have f_ka := ka.frozen
  clear hb0
  by_cases hneg : r < 0
  · go_wp2_with fail
    go_ret
    exact ⟨rfl, hBw⟩
  have hn : n ≤ 1048576 := by omega
  go_wp2_with fail
  refine (toInbox_c a A n c l _ h hn).mono ?_
  rintro e w1 ⟨A1, c1, rfl, hown1, hb1⟩
  have h := h.bel hb1
  have hBw := bel_nx hBw hb1
  have ka := ka.bel hb1
  have c_ka := ka.cell
  have f_ka := ka.frozen
  clear hb1
  have z1 := hBw.size
  go_wp2_with fail
  refine (specInboxWaits_c a A1 n c1 l _ (SlI.of_own hown1) ha ha2).mono ?_
  rintro e w2 ⟨AW, nW, cW, rfl, hW, hnW, hb2⟩
  have hW2 := hW
  have h := h.bel hb2
  have hBw := bel_nx hBw hb2
  have ka := ka.bel hb2
  have c_ka := ka.cell
  have f_ka := ka.frozen
  clear hb2 hown1
  have z2 := hBw.size
  go_wp2_with fail
  refine (toInbox_c a A n c l _ h hn).mono ?_
  rintro e w3 ⟨AX, cX, rfl, hX, hb3⟩
  have h := h.bel hb3
  have hBw := bel_nx hBw hb3
  have ka := ka.bel hb3
  have hW := own_bel hW hb3
  have c_ka := ka.cell
  have f_ka := ka.frozen
  have hsz23 := hb3.size
  clear hb3
  have HWX := Lib.hid (own_apart hW2 hX (Nat.le_refl _)).1
  go_wp2_with fail
  have kx := Blk.new w3 25 #[.int .i64 a, .slice AX n cX]
  have h := h.al (.cells #[.int .i64 a, .slice AX n cX] 25)
  have ka := ka.al (.cells #[.int .i64 a, .slice AX n cX] 25)
  have hX := hX.alloc (.cells #[.int .i64 a, .slice AX n cX] 25)
  have hW := hW.alloc (.cells #[.int .i64 a, .slice AX n cX] 25)
  have hBw := bel_al hBw (.cells #[.int .i64 a, .slice AX n cX] 25)
  have hX3 := hX
  have z3 := hBw.size
  refine (implInboxWaits_c a AX n cX l _ (SlI.of_own hX) ha ha2).mono ?_
  rintro e w4 ⟨AG, nG, cG, rfl, hG, hnG, hb4⟩
  have HGX := Lib.hid (own_apart hX3 hG (Nat.le_refl _)).2
  have HWG := Lib.hid (own_apart hW2 hG (by have := hsz23; simp; omega)).1
  have h := h.bel hb4
  have ka := ka.bel hb4
  have kx := kx.bel hb4
  have hX := own_bel hX hb4
  have hW := own_bel hW hb4
  have hBw := bel_nx hBw hb4
  have c_ka := ka.cell
  have f_ka := ka.frozen
  have c_kx := kx.cell
  have f_kx := kx.frozen
  clear hb4 hX3 hW2
  go_wp2_with fail
  refine (eqIntS_same AG AW nG cG nW cW (waitsF a l) _ (SlI.of_own hG) (SlI.of_own hW)).mono ?_
  rintro e w5 ⟨rfl, hb5⟩
  have h := h.bel hb5
  have ka := ka.bel hb5
  have kx := kx.bel hb5
  have hX := own_bel hX hb5
  have hW := own_bel hW hb5
  have hG := own_bel hG hb5
  have hBw := bel_nx hBw hb5
  have c_ka := ka.cell
  have f_ka := ka.frozen
  have c_kx := kx.cell
  have f_kx := kx.frozen
  clear hb5
  go_wp2_with fail
  have hX := ownsRow_base hX z2
  have hG := ownsRow_base hG z3
  have hW := ownsRow_base hW z1
  go_region_held3 (fun w' => w'.cell? ⟨w3.heap.size, 0, none⟩ = some (.int .i64 a) ∧ w'.cell? ⟨w3.heap.size, 1, none⟩ = some (.slice AX n cX) ∧ w'.cell? ⟨w.heap.size, 0, none⟩ = some (.int .i64 a) ∧ w'.cell? ⟨w.heap.size, 1, none⟩ = some (.slice A n c) ∧ Blk w' w3.heap.size 25 #[.int .i64 a, .slice AX n cX] ∧ Blk w' w.heap.size 29 #[.int .i64 a, .slice A n c] ∧ SlI w' A n c l ∧ w'.ownsRow w.heap.size 3 1 (.slice AX n cX) n (l.map (Value.int .i64)) ∧ w'.ownsRow w.heap.size 3 1 (.slice AW nW cW) nW ((waitsF a l).map (Value.int .i64)) ∧ w'.ownsRow w.heap.size 3 1 (.slice AG nG cG) nG ((waitsF a l).map (Value.int .i64)) ∧ Below w.heap.size w w') (first | (refine ⟨?_, ?_, ?_, ?_, ?_, ?_, ?_, ?_, ?_, ?_, ?_⟩ <;> (first | exact c_kx 0 | exact c_kx 1 | exact c_ka 0 | exact c_ka 1 | exact kx | exact ka | exact h.dr | exact hX | exact hW | exact hG | exact hX.drew | exact hW.drew | exact hG.drew | exact bel_dr hBw)) | (go_split_ands; refine ⟨?_, ?_, ?_, ?_, ?_, ?_, ?_, ?_, ?_, ?_, ?_⟩ <;> (first | exact cell_on hb7 (by assumption) | exact Blk.bel (by assumption) hb7 | exact Sl.bel (by assumption) hb7 | exact own_bel (by assumption) hb7 | exact bel_nx (by assumption) hb7)) | (go_split_ands; refine ⟨?_, ?_, ?_, ?_, ?_, ?_, ?_, ?_, ?_, ?_, ?_⟩ <;> (first | exact cell_on hb6 (by assumption) | exact Blk.bel (by assumption) hb6 | exact Sl.bel (by assumption) hb6 | exact own_bel (by assumption) hb6 | exact bel_nx (by assumption) hb6))) ((first | (go_at_call 20; refine (toInbox_c a A n c l _ (by go_split_ands; assumption) hn).mono ?_; rintro e w6 ⟨A6, c6, rfl, hown6, hb6⟩) | (go_at_call 21; refine (eqInbox_same a AX A6 n cX n c6 l _ (by go_split_ands; exact SlI.of_own (by assumption)) (by first | exact SlI.of_own hown6 | exact (SlI.of_own hown6).dr)).mono ?_; rintro e w7 ⟨rfl, hb7⟩)))
  go_split_ands
  clear h ka kx hX hW hG hBw c_ka f_ka c_kx f_kx
  have kx : Blk w7 w3.heap.size 25 #[.int .i64 a, .slice AX n cX] := by assumption
  have ka : Blk w7 w.heap.size 29 #[.int .i64 a, .slice A n c] := by assumption
  have h : SlI w7 A n c l := by assumption
  have hX : w7.ownsRow w.heap.size 3 1 (.slice AX n cX) n (l.map (Value.int .i64)) := by assumption
  have hW : w7.ownsRow w.heap.size 3 1 (.slice AW nW cW) nW ((waitsF a l).map (Value.int .i64)) := by assumption
  have hG : w7.ownsRow w.heap.size 3 1 (.slice AG nG cG) nG ((waitsF a l).map (Value.int .i64)) := by assumption
  have hBw : Below w.heap.size w w7 := by assumption
  clear hb6 hb7 hown6
  have c_ka := ka.cell
  have f_ka := ka.frozen
  have c_kx := kx.cell
  have f_kx := kx.frozen
  go_wp2_with fail
  refine (markInbox_c w.heap.size a AX n cX 1 l _ hX (by omega)).mono ?_
  rintro e w8 ⟨rfl, hX8, hg8⟩
  have hkb : ∀ k, (Value.slice AX n cX).ownBlock = some k → w.heap.size ≤ k := fun k hk => (hX.lt k hk).1
  have ka := ka.gr hg8 (fun e => own_ne_blk hX ka (by decide) e.symm)
  have hW := hW.kept hg8 HWX.out
  have hG := hG.kept hg8 HGX.out
  have hBw := hBw.grown hg8 hBw.size hkb
  have c_ka := ka.cell
  have f_ka := ka.frozen
  have q0 : (0 : Int) ≤ ((1 + n : Nat) : Int) := by omega
  have q1 : decide (((1 + n : Nat) : Int) < 0) = false := decide_eq_false (by omega)
  go_wp2_with fail
  refine (eqIntS_same AG AW nG cG nW cW (waitsF a l) _ (SlI.of_own hG) (SlI.of_own hW)).mono ?_
  rintro e w9 ⟨rfl, hb9⟩
  have hW := own_bel hW hb9
  have hG := own_bel hG hb9
  have ka := ka.bel hb9
  have hBw := bel_nx hBw hb9
  have c_ka := ka.cell
  have f_ka := ka.frozen
  go_wp2_with fail
  refine (markIntS_c w.heap.size AG nG cG 1 (waitsF a l) _ hG (by omega)).mono ?_
  rintro e w10 ⟨rfl, hG10, hg10⟩
  have ka := ka.gr hg10 (fun e => own_ne_blk hG ka (by decide) e.symm)
  have hW := hW.kept hg10 HWG.out
  have hBw := hBw.grown hg10 hBw.size (fun k hk => (hG.lt k hk).1)
  have c_ka := ka.cell
  have f_ka := ka.frozen
  have r0 : (0 : Int) ≤ ((1 + nG : Nat) : Int) := by omega
  have r1 : decide (((1 + nG : Nat) : Int) < 0) = false := decide_eq_false (by omega)
  go_wp2_with fail
  refine (heldIntS_c AG nG cG 1 _ (SlI.of_own hG10) (by omega)).mono ?_
  rintro e w11 ⟨rfl, hb11⟩
  have ka := ka.bel hb11
  have hW := own_bel hW hb11
  have hG := own_bel hG10 hb11
  have hBw := bel_nx hBw hb11
  have c_ka := ka.cell
  have f_ka := ka.frozen
  go_wp2_with fail
  refine (toInbox_c a A n c l _ (HH.out.bel hBw) hn).mono ?_
  rintro e w12 ⟨A12, c12, rfl, ho12, hb12⟩
  have hW := own_bel hW hb12
  have hG := own_bel hG hb12
  have hBw := bel_nx hBw hb12
  go_wp2_with fail
  refine (implInboxWaits_c a A12 n c12 l _ (SlI.of_own ho12) ha ha2).mono ?_
  rintro e w13 ⟨AR, nR, cR, rfl, hR, hnR, hb13⟩
  have hW := own_bel hW hb13
  have hG := own_bel hG hb13
  have hBw := bel_nx hBw hb13
  go_wp2_with fail
  refine (eqIntS_same AR AW nR cR nW cW (waitsF a l) _ (SlI.of_own hR) (SlI.of_own hW)).mono ?_
  rintro e w14 ⟨rfl, hb14⟩
  have hG := own_bel hG hb14
  have hBw := bel_nx hBw hb14
  go_wp2_with fail
  refine (heldIntS_c AG nG cG 1 _ (SlI.of_own hG) (by omega)).mono ?_
  rintro e w15 ⟨rfl, hb15⟩
  go_wp2_with fail
  go_ret
  exact ⟨rfl, bel_nx hBw hb15⟩

set_option maxRecDepth 100000 in
theorem fnExactInboxWaits_l (os : Os) (started : os.Started) (H : Type) (enc : TypeId × Value → H) :
    ReturnsInHanded {} Try.checked os 8 .any (Rows.fnExactInboxWaitsSpec.pre6 enc Try.prog Try.f8 Rows.fnExactInboxWaitsRow.domain false) (Rows.fnExactInboxWaitsSpec.post enc Try.prog Try.f8 false true false false) := by
  refine returnsInHanded_of_change (C := Try.checked) own started (by kernel_rfl) Try.func8
    (ChangeSpec.witness6 (enc := enc) (C := Try.checked) false ⟨#[], #[.agg #[.int .i64 0, .slice none 0 0]], []⟩ 8 (by kernel_rfl) (by kernel_rfl) (by kernel_rfl) (by kernel_rfl)) ?_
  intro W base args ds gs before hval0 hW hcnd _
  have hval : ∀ (j : Nat) t v, Try.f8.params[j]? = some t → args[j]? = some v → Value.okWide Try.prog W .any base t v := hval0
  have hW' := hW
  obtain ⟨p, q, hA0, hV, rfl, hfz, hnd⟩ := hW
  have hA : DataW.TrodAll enc Try.prog W 0 (fun _ => true) true Try.f8.params.toList args.toList ds p := hA0
  rw [Try.params8] at hA hval
  obtain ⟨v0, vs0, d0, ds0, p0, q0, hargs, rfl, rfl, h0, r0⟩ := trodAll_cons hA
  obtain ⟨rfl, rfl, rfl⟩ := trodAll_nil r0
  obtain rfl : args = #[v0] := by cases args; simp_all
  obtain ⟨rfl, rfl⟩ := trodVars_none hV
  have k0 := h0
  have lt0 : ∀ x ∈ p0, x.block < W.heap.size := by obtain ⟨m, hm⟩ := k0; exact DataW.trod_lt m _ _ _ hm
  obtain ⟨c0, v0, y0, y1, m, rfl, _, _, hy0, hy1⟩ := open_agg2 Try.underlying29 (by kernel_rfl) (show Try.prog.cellsOf 29 = 2 by kernel_rfl) (hval 0 29 v0 rfl rfl) h0
  obtain ⟨a0, e0, _, wa0⟩ := DataW.trod_int Try.underlying3 hy0
  simp at e0
  subst e0
  obtain ⟨A0, n0, cc0, l0, rfl, w0⟩ := ints_cell hy1 (fun _ => rfl)
  clear hA0 hval0
  refine (exactInboxWaits_w a0 A0 n0 cc0 l0 W w0 (wf_bounds wa0).1 (wf_bounds wa0).2).mono fun e W' ⟨he, bel⟩ => ?_
  subst he
  exact ⟨_, rfl, _, _, _, [], _, [], hW', trodAll_mk1 (shut_bool Try.underlying4 _), (trodAll_cons_mk (Below.trod laidOut (by kernel_rfl) (of_decide_eq_true (by kernel_rfl)) k0 bel lt0) trodAll_mk0), rfl, bel.frame _, fun h => by cases h⟩

theorem fnExactInboxWaits_holds : Rows.FnExactInboxWaitsSaid :=
  OpenClaim.holds_of_wide 8 Try.f8 rfl rfl rfl rfl rfl rfl rfl ⟨rfl, rfl, rfl, rfl, rfl⟩ rfl rfl rfl rfl rfl (by kernel_rfl) Try.func8 (by kernel_rfl)
    (of_decide_eq_true (by kernel_rfl)) (by unfold Func.isWrapper; first | (rw [if_pos (by decide +kernel)]; kernel_rfl) | (rw [if_neg (by decide +kernel)]; exact ⟨rfl, rfl⟩))
    (fun os started H enc _ => fnExactInboxWaits_l os started H enc)
#print axioms fnExactInboxWaits_holds
end Go.Proofs.Ytdcojlbekpcejaa
