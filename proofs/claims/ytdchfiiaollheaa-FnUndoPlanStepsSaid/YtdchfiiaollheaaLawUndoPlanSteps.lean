/- For every code that a flow and a run are drawn from: only what can be undone is. No conditions. -/
import Derived.Test.YtdchfiiaollheaaUndoPlain
import Derived.Test.YtdchfiiaollheaaRunDraw4
import Derived.Test.YtdchfiiaollheaaLift
namespace Go.Proofs.Ytdchfiiaollheaa
open Go.ChangeShapes Go.WideShapes Go.ChangeAt Go.RowKit Go.Joins

set_option maxRecDepth 20000 in
set_option maxHeartbeats 8000000 in
theorem fnUndoPlanSteps_w (A : Option Addr) (n c : Nat) (zs : List Int) (w : World) (h : IsRow .u8 w A n c zs) : Calls Try.prog 9 #[.slice A n c] w fun e w' => e = .returned (.bool true) ∧ Below w.heap.size w w' := by
  obtain ⟨r1, r2⟩ := row_len h
  by_cases hn : 1048576 < n
  · go_enter Try.func9, Try.ntmps9
    go_wp2_with fail
    go_ret
    exact ⟨rfl, Below.refl _ _⟩
  have g1 : (n : Int) ≤ 1048576 := by omega
  clear hn
  go_enter Try.func9, Try.ntmps9
  go_wp2_with fail
  refine (drawUndoPlan_c A n c zs _ h).mono ?_
  rintro e w1 ⟨v, F, m, d, l, st, P, pn, pc, done, rfl, hf, h5, hm, hd, hpn, hW⟩
  have hz := h5.szP
  have hm2 : m ≤ 1048576 := by omega
  have hpn2 : pn ≤ 1048576 := by omega
  have hlm := Lib.hid hf.len
  have hld := Lib.hid hd.len
  have kf := (Blk.new w1 25 #[.int .i64 v, .slice F m d]).al (.cells #[.int .i64 st, .slice P pn pc] 40)
  have kr := Blk.new (w1.alloc (.cells #[.int .i64 v, .slice F m d] 25)) 40 #[.int .i64 st, .slice P pn pc]
  rw [show (w1.alloc (.cells #[.int .i64 v, .slice F m d] 25)).heap.size = w1.heap.size + 1 by simp] at kr
  have hf := (hf.al (.cells #[.int .i64 v, .slice F m d] 25)).al (.cells #[.int .i64 st, .slice P pn pc] 40)
  have hd := (hd.al (.cells #[.int .i64 v, .slice F m d] 25)).al (.cells #[.int .i64 st, .slice P pn pc] 40)
  have hW := bel_al (bel_al hW (.cells #[.int .i64 v, .slice F m d] 25)) (.cells #[.int .i64 st, .slice P pn pc] 40)
  have c_kf := kf.cell
  have c_kr := kr.cell
  go_wp2_with fail
  refine (implUndoPlan_c v F m d l st P pn pc done _ hf hz hm2 hd hpn2).mono ?_
  rintro e u1 ⟨D, dn, dc, rfl, hD, hb1⟩
  have kf := kf.bel hb1
  have kr := kr.bel hb1
  have hf := hf.bel hb1
  have hd := hd.bel hb1
  have hW := bel_nx hW hb1
  have c_kf := kf.cell
  have c_kr := kr.cell
  go_wp2_with fail
  refine (specUndoPlan_c v F m d l st P pn pc done _ hf hz hm2 hd hpn2).mono ?_
  rintro e u2 ⟨E, en, ec, rfl, hE, hb2⟩
  have kf := kf.bel hb2
  have kr := kr.bel hb2
  have hf := hf.bel hb2
  have hd := hd.bel hb2
  have hW := bel_nx hW hb2
  have hD := own_bel hD hb2
  have c_kf := kf.cell
  have c_kr := kr.cell
  go_wp2_with fail
  refine (sameTexts_b _ _ _ _ _ _ _ _ (SlS.of_own hD) (SlS.of_own hE)).mono ?_
  rintro e u3 ⟨rfl, hb3⟩
  have kf := kf.bel hb3
  have kr := kr.bel hb3
  have hf := hf.bel hb3
  have hd := hd.bel hb3
  have hW := bel_nx hW hb3
  have hD := own_bel hD hb3
  have hE := own_bel hE hb3
  have c_kf := kf.cell
  have c_kr := kr.cell
  have HPL := Lib.hid (plan_good (v := v) (l := l) (st := st) (done := done))
  have hDc := (SlS.of_own hD).cap
  have hDm := (SlS.of_own hD).max
  go_wp2_with fail
  go_loopw [7] (fun iv wr => ∃ i : Nat, i ≤ dn ∧ iv = .int .i64 (i : Int) ∧ Below u3.heap.size u3 wr) (fun iv _ => dn - (intOf iv).toNat)
  case atStart => exact ⟨0, Nat.zero_le _, rfl, bel_refl _⟩
  case round =>
    obtain ⟨i, hi, rfl, hTr⟩ := hrel
    have kf := kf.bel hTr
    have kr := kr.bel hTr
    have hf := hf.bel hTr
    have hd := hd.bel hTr
    have hW := bel_nx hW hTr
    have hD := own_bel hD hTr
    have hE := own_bel hE hTr
    clear c_kf c_kr
    by_cases hlt : i < dn
    · obtain ⟨b, off, t, hA, hx, x2⟩ := SlS.get (SlS.of_own hD) (i := i) hlt
      subst hA
      have hgd := HPL.out t (List.mem_of_getElem? hx)
      have HB : Hid (findB v l t = true) := Lib.hid hgd.1
      have HU : Hid ((findB v l t && undoB l t) = true) := Lib.hid (by rw [hgd.1, hgd.2]; rfl)
      clear hx hgd
      have q0 : (0 : Int) ≤ (i : Int) := by omega
      have q1 : (i : Int) < (dn : Int) := by omega
      go_upto_region 11 with fail
      have x0 : wr.cell? ⟨w1.heap.size, 0, none⟩ = some (.int .i64 v) := kf.cell 0
      have x1 : wr.cell? ⟨w1.heap.size, 1, none⟩ = some (.slice F m d) := kf.cell 1
      have nK : w1.heap.size ≠ wr.heap.size := by have := kf.lt; omega
      have nB := Nat.ne_of_lt (cell_some_lt (w := wr) (p := ⟨b, off + i, none⟩) (by rw [x2]; rfl))
      go_cut [8, 9] (fun pv bv wc => ∃ (g : Nat) (nm : ByteArray) (D : Option Addr) (m7 d7 : Nat), pv = .pointer (some ⟨g, 0, none⟩) ∧ bv = .bool true ∧ Blk wc g 30 #[.string nm, .slice D m7 d7, .bool true] ∧ Below wr.heap.size wr wc)
      case first =>
        go_region_held3 (fun w' => w'.cell? ⟨w1.heap.size, 0, none⟩ = some (.int .i64 v) ∧ w'.cell? ⟨w1.heap.size, 1, none⟩ = some (.slice F m d) ∧ w'.cell? ⟨b, off + i, none⟩ = some (.string t)) (first | with_reducible exact ⟨cell_dr x0, cell_dr x1, cell_dr x2⟩ | with_reducible exact ⟨cell_dr (cell_al x0 _), cell_dr (cell_al x1 _), cell_dr (cell_al x2 _)⟩ | with_reducible exact ⟨y0, y1, y2⟩ | with_reducible exact ⟨cell_al y0 _, cell_al y1 _, cell_al y2 _⟩ | with_reducible exact ⟨cell_st (cell_st (cell_st y0 nK _) nK _) nK _, cell_st (cell_st (cell_st y1 nK _) nK _) nK _, cell_st (cell_st (cell_st y2 nB _) nB _) nB _⟩) ((go_at_call 33; refine (flowFind_z v F m d l t true true _ (by first | with_reducible exact hf.dr | with_reducible exact (hf.al _).dr) hz HB.out HU.out).mono ?_; rintro e w7 ⟨nm7, D7, m7, d7, rfl, hb7⟩; have hB7 : Below wr.heap.size wr w7 := (by first | with_reducible exact bel_nx (bel_dr (bel_refl wr)) hb7 | with_reducible exact bel_nx (bel_dr (bel_al (bel_refl wr) _)) hb7); have y0 : w7.cell? ⟨w1.heap.size, 0, none⟩ = some (.int .i64 v) := cell_on hB7 x0; have y1 : w7.cell? ⟨w1.heap.size, 1, none⟩ = some (.slice F m d) := cell_on hB7 x1; have y2 : w7.cell? ⟨b, off + i, none⟩ = some (.string t) := cell_on hB7 x2; (first | (with_reducible have kS := Blk.bel (Blk.dr (Blk.new wr 30 stepZ)) hb7; have cS := kS.cell; have fS := kS.frozen) | skip)))
        all_goals
          go_wp2_with fail
          go_meet
          go_light
          first
            | exact ⟨w7.heap.size, nm7, D7, m7, d7, rfl, rfl, Blk.new _ _ _, bel_al hB7 _⟩
            | exact ⟨wr.heap.size, nm7, D7, m7, d7, rfl, rfl, blk3 kS, bel_set (bel_set (bel_set hB7 (Nat.le_refl _) _) (Nat.le_refl _) _) (Nat.le_refl _) _⟩
      case rest =>
        obtain ⟨g, nm, D7, m7, d7, rfl, rfl, kS, hbc⟩ := hcut
        have cS := kS.cell
        go_wp2_with fail
        go_roundw
        case rel => exact ⟨i + 1, by omega, by go_num, bel_nx hTr hbc⟩
        case measure => simp [intOf]; omega
    · go_wp2_with fail
      go_ret
      exact ⟨rfl, hW⟩

set_option maxRecDepth 100000 in
theorem fnUndoPlanSteps_l (os : Os) (started : os.Started) (H : Type) (enc : TypeId × Value → H) :
    ReturnsInHanded {} Try.checked os 9 .any (Rows.fnUndoPlanStepsSpec.pre6 enc Try.prog Try.f9 Rows.fnUndoPlanStepsRow.domain false) (Rows.fnUndoPlanStepsSpec.post enc Try.prog Try.f9 false true false false) := by
  refine returnsInHanded_of_change (C := Try.checked) own started (by kernel_rfl) Try.func9
    (ChangeSpec.witness6 (enc := enc) (C := Try.checked) false ⟨#[], #[.slice none 0 0], []⟩ 8 (by kernel_rfl) (by kernel_rfl) (by kernel_rfl) (by kernel_rfl)) ?_
  intro W base args ds gs before hval0 hW hcnd _
  have hval : ∀ (j : Nat) t v, Try.f9.params[j]? = some t → args[j]? = some v → Value.okWide Try.prog W .any base t v := hval0
  have hW' := hW
  obtain ⟨p, q, hA0, hV, rfl, hfz, hnd⟩ := hW
  have hA : DataW.TrodAll enc Try.prog W 0 (fun _ => true) true Try.f9.params.toList args.toList ds p := hA0
  rw [Try.params9] at hA hval
  obtain ⟨v0, vs0, d0, ds0, p0, q0, hargs, rfl, rfl, h0, r0⟩ := trodAll_cons hA
  obtain ⟨rfl, rfl, rfl⟩ := trodAll_nil r0
  obtain rfl : args = #[v0] := by cases args; simp_all
  obtain ⟨rfl, rfl⟩ := trodVars_none hV
  have k0 := h0
  have lt0 : ∀ x ∈ p0, x.block < W.heap.size := by obtain ⟨m, hm⟩ := k0; exact DataW.trod_lt m _ _ _ hm
  obtain ⟨A0, n0, c0, rfl⟩ := okWide_slice Try.underlying22 (hval 0 22 v0 rfl rfl)
  obtain ⟨z0, w0⟩ := bytes_row h0 (fun _ => rfl)
  clear hA0 hval0
  refine (fnUndoPlanSteps_w A0 n0 c0 z0 W w0).mono fun e W' ⟨he, bel⟩ => ?_
  subst he
  exact ⟨_, rfl, _, _, _, [], _, [], hW', trodAll_mk1 (shut_bool Try.underlying4 _), (trodAll_cons_mk (Below.trod laidOut (by kernel_rfl) (of_decide_eq_true (by kernel_rfl)) k0 bel lt0) trodAll_mk0), rfl, bel.frame _, fun h => by cases h⟩

theorem fnUndoPlanSteps_holds : Rows.FnUndoPlanStepsSaid :=
  OpenClaim.holds_of_wide 9 Try.f9 rfl rfl rfl rfl rfl rfl rfl ⟨rfl, rfl, rfl, rfl, rfl⟩ rfl rfl rfl rfl rfl (by kernel_rfl) Try.func9 (by kernel_rfl)
    (of_decide_eq_true (by kernel_rfl)) (by unfold Func.isWrapper; first | (rw [if_pos (by decide +kernel)]; kernel_rfl) | (rw [if_neg (by decide +kernel)]; exact ⟨rfl, rfl⟩))
    (fun os started H enc _ => fnUndoPlanSteps_l os started H enc)
#print axioms fnUndoPlanSteps_holds

end Go.Proofs.Ytdchfiiaollheaa
