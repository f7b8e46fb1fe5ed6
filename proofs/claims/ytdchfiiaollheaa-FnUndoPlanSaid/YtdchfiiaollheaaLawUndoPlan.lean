/- For every code that a flow and a run are drawn from: a plan is what is undone. No conditions. -/
import Derived.Test.YtdchfiiaollheaaUndoPlain
import Derived.Test.YtdchfiiaollheaaRunDraw4
import Derived.Test.YtdchfiiaollheaaLift
import Derived.Test.YtdchfiiaollheaaUndoPlain3
import Derived.Test.YtdchfiiaollheaaRunImpl
namespace Go.Proofs.Ytdchfiiaollheaa
open Go.ChangeShapes Go.WideShapes Go.ChangeAt Go.RowKit Go.Joins

set_option maxRecDepth 20000 in
set_option maxHeartbeats 8000000 in
theorem fnUndoPlan_w (A : Option Addr) (n c : Nat) (zs : List Int) (w : World) (h : IsRow .u8 w A n c zs) : Calls Try.prog 12 #[.slice A n c] w fun e w' => e = .returned (.bool true) ∧ Below w.heap.size w w' := by
  obtain ⟨r1, r2⟩ := row_len h
  by_cases hn : 1048576 < n
  · go_enter Try.func12, Try.ntmps12
    go_wp2_with fail
    go_ret
    exact ⟨rfl, Below.refl _ _⟩
  have g1 : (n : Int) ≤ 1048576 := by omega
  clear hn
  go_enter Try.func12, Try.ntmps12
  go_wp2_with fail
  refine (drawUndoPlan_c A n c zs _ h).mono ?_
  rintro e w1 ⟨v, F, m, d, l, st, P, pn, pc, done, rfl, hf, h5, hm, hd, hpn, hW⟩
  have hz := h5.szP
  have hm2 : m ≤ 1048576 := by omega
  have hpn2 : pn ≤ 1048576 := by omega
  have hlm := Lib.hid hf.len
  have hld := Lib.hid hd.len
  have kf := (Blk.new w1 25 #[.int .i64 v, .slice F m d]).al (.cells #[.int .i64 st, .slice P pn pc] 40)
  have kr := Blk.new (w1.alloc (.cells #[.int .i64 v, .slice F m d] 25)) 40 #[.int .i64 st, .slice P pn pc]
  rw [show (w1.alloc (.cells #[.int .i64 v, .slice F m d] 25)).heap.size = w1.heap.size + 1 by simp] at kr
  have hf := (hf.al (.cells #[.int .i64 v, .slice F m d] 25)).al (.cells #[.int .i64 st, .slice P pn pc] 40)
  have hd := (hd.al (.cells #[.int .i64 v, .slice F m d] 25)).al (.cells #[.int .i64 st, .slice P pn pc] 40)
  have hW := bel_al (bel_al hW (.cells #[.int .i64 v, .slice F m d] 25)) (.cells #[.int .i64 st, .slice P pn pc] 40)
  have c_kf := kf.cell
  have c_kr := kr.cell
  go_wp2_with fail
  refine (implUndoPlan_c v F m d l st P pn pc done _ hf hz hm2 hd hpn2).mono ?_
  rintro e u1 ⟨D, dn, dc, rfl, hD, hb1⟩
  have kf := kf.bel hb1
  have kr := kr.bel hb1
  have hf := hf.bel hb1
  have hd := hd.bel hb1
  have hW := bel_nx hW hb1
  have c_kf := kf.cell
  have c_kr := kr.cell
  go_wp2_with fail
  refine (specUndoPlan_c v F m d l st P pn pc done _ hf hz hm2 hd hpn2).mono ?_
  rintro e u2 ⟨E, en, ec, rfl, hE, hb2⟩
  have kf := kf.bel hb2
  have kr := kr.bel hb2
  have hf := hf.bel hb2
  have hd := hd.bel hb2
  have hW := bel_nx hW hb2
  have hD := own_bel hD hb2
  have c_kf := kf.cell
  have c_kr := kr.cell
  go_wp2_with fail
  refine (sameTexts_b _ _ _ _ _ _ _ _ (SlS.of_own hD) (SlS.of_own hE)).mono ?_
  rintro e u3 ⟨rfl, hb3⟩
  have kf := kf.bel hb3
  have kr := kr.bel hb3
  have hf := hf.bel hb3
  have hd := hd.bel hb3
  have hW := bel_nx hW hb3
  have hD := own_bel hD hb3
  have hE := own_bel hE hb3
  have c_kf := kf.cell
  have c_kr := kr.cell
  obtain ⟨bv, hbv⟩ : ∃ x, runB v l st done = x := ⟨_, rfl⟩
  have Hbv := Lib.hid hbv
  clear hbv
  go_wp2_with fail
  refine (specRunValid_b v F m d l st P pn pc done bv _ hf hz hm2 hd Hbv.out).mono ?_
  rintro e u4 ⟨rfl, hb4⟩
  have kf := kf.bel hb4
  have kr := kr.bel hb4
  have hf := hf.bel hb4
  have hd := hd.bel hb4
  have hW := bel_nx hW hb4
  have hD := own_bel hD hb4
  have hE := own_bel hE hb4
  have c_kf := kf.cell
  have c_kr := kr.cell
  cases bv
  · skip
    go_wp2_with fail
    refine (sameTexts_b _ _ _ _ _ _ _ _ (SlS.of_own hD) (SlS.of_own hE)).mono ?_
    rintro e u5 ⟨rfl, hb5⟩
    have kf := kf.bel hb5
    have kr := kr.bel hb5
    have hf := hf.bel hb5
    have hd := hd.bel hb5
    have hW := bel_nx hW hb5
    have hD := own_bel hD hb5
    have hE := own_bel hE hb5
    have c_kf := kf.cell
    have c_kr := kr.cell
    go_wp2_with fail
    go_ret
    exact ⟨rfl, hW⟩
  rcases Classical.em (st = 0) with h2 | h2
  rotate_left 1
  · have e2 : (st == 0) = false := by simpa using h2
    have e3 : (st != 0) = true := by rw [bne, e2]; rfl
    clear h2
    go_wp2_with fail
    refine (sameTexts_b _ _ _ _ _ _ _ _ (SlS.of_own hD) (SlS.of_own hE)).mono ?_
    rintro e u6 ⟨rfl, hb6⟩
    have kf := kf.bel hb6
    have kr := kr.bel hb6
    have hf := hf.bel hb6
    have hd := hd.bel hb6
    have hW := bel_nx hW hb6
    have hD := own_bel hD hb6
    have hE := own_bel hE hb6
    have c_kf := kf.cell
    have c_kr := kr.cell
    go_wp2_with fail
    go_ret
    exact ⟨rfl, hW⟩
  have e2 : (st == 0) = true := by simpa using h2
  have e3 : (st != 0) = false := by rw [bne, e2]; rfl
  have HP := Lib.hid (planP_yes Hbv.out (by rw [h2]; decide))
  have HB0 : Hid (runB v l 0 done = true) := Lib.hid (by rw [← h2]; exact Hbv.out)
  have HST := Lib.hid h2
  clear h2
  obtain ⟨f, hfq⟩ : ∃ f, firmP l done = f := ⟨_, rfl⟩
  have hfl := firmP_le (l := l) (done := done)
  rw [hfq] at hfl
  have HF := Lib.hid hfq
  clear hfq
  rw [HP.out, HF.out] at hD hE
  have hdn := own_countS hD
  simp at hdn
  rw [hld.out] at hdn hfl
  have hJ2 : f + dn = pn := by omega
  clear hdn hE
  go_wp2_with fail
  refine (runNext_z v F m d l st P pn pc done _ hf hz hm2 hd HST.out HB0.out).mono ?_
  rintro e u7 ⟨X, xn, xc, rfl, hX, hb7⟩
  have kf := kf.bel hb7
  have kr := kr.bel hb7
  have hf := hf.bel hb7
  have hd := hd.bel hb7
  have hW := bel_nx hW hb7
  have hD := own_bel hD hb7
  have c_kf := kf.cell
  have c_kr := kr.cell
  obtain ⟨x, rr, hxr⟩ := ready_ne HB0.out
  have hxn := own_countS hX
  have hx0 : 0 < xn := by rw [hxn, hxr]; simp
  have HRX : Hid (inB (readyP l done) x = true) := Lib.hid (inB_iff.2 (by rw [hxr]; simp))
  obtain ⟨bx, offx, tx, hAx, hxx, hcx⟩ := SlS.get (SlS.of_own hX) (i := 0) hx0
  subst hAx
  rw [hxr] at hxx
  simp at hxx
  subst hxx
  simp only [Nat.add_zero] at hcx
  have hXc := (SlS.of_own hX).cap
  have hXm := (SlS.of_own hX).max
  have e0 : ((xn : Int) == 0) = false := by simp; omega
  have x0i : (0 : Int) < (xn : Int) := by omega
  clear hxn hxr hX
  have a0 : u7.cell? ⟨w1.heap.size, 0, none⟩ = some (.int .i64 v) := kf.cell 0
  have a1 : u7.cell? ⟨w1.heap.size, 1, none⟩ = some (.slice F m d) := kf.cell 1
  have a2 : u7.cell? ⟨w1.heap.size + 1, 0, none⟩ = some (.int .i64 st) := kr.cell 0
  have a3 : u7.cell? ⟨w1.heap.size + 1, 1, none⟩ = some (.slice P pn pc) := kr.cell 1
  have nK : w1.heap.size ≠ u7.heap.size := by have := kf.lt; omega
  have nR : w1.heap.size + 1 ≠ u7.heap.size := by have := kr.lt; omega
  have nX : bx ≠ u7.heap.size := Nat.ne_of_lt (cell_some_lt (w := u7) (p := ⟨bx, offx, none⟩) (by rw [hcx]; rfl))
  have xs : u7.cell? ⟨w1.heap.size, 0, none⟩ = some (.int .i64 v) ∧ u7.cell? ⟨w1.heap.size, 1, none⟩ = some (.slice F m d) ∧ u7.cell? ⟨w1.heap.size + 1, 0, none⟩ = some (.int .i64 st) ∧ u7.cell? ⟨w1.heap.size + 1, 1, none⟩ = some (.slice P pn pc) ∧ u7.cell? ⟨bx, offx, none⟩ = some (.string x) := ⟨a0, a1, a2, a3, hcx⟩
  have xsd : u7.drew.cell? ⟨w1.heap.size, 0, none⟩ = some (.int .i64 v) ∧ u7.drew.cell? ⟨w1.heap.size, 1, none⟩ = some (.slice F m d) ∧ u7.drew.cell? ⟨w1.heap.size + 1, 0, none⟩ = some (.int .i64 st) ∧ u7.drew.cell? ⟨w1.heap.size + 1, 1, none⟩ = some (.slice P pn pc) ∧ u7.drew.cell? ⟨bx, offx, none⟩ = some (.string x) := xs
  have xt : (u7.alloc (.cells #[.int .i64 0, .slice none 0 0] 40)).drew.cell? ⟨w1.heap.size, 0, none⟩ = some (.int .i64 v) ∧ (u7.alloc (.cells #[.int .i64 0, .slice none 0 0] 40)).drew.cell? ⟨w1.heap.size, 1, none⟩ = some (.slice F m d) ∧ (u7.alloc (.cells #[.int .i64 0, .slice none 0 0] 40)).drew.cell? ⟨w1.heap.size + 1, 0, none⟩ = some (.int .i64 st) ∧ (u7.alloc (.cells #[.int .i64 0, .slice none 0 0] 40)).drew.cell? ⟨w1.heap.size + 1, 1, none⟩ = some (.slice P pn pc) ∧ (u7.alloc (.cells #[.int .i64 0, .slice none 0 0] 40)).drew.cell? ⟨bx, offx, none⟩ = some (.string x) := ⟨cell_al xs.1 _, cell_al xs.2.1 _, cell_al xs.2.2.1 _, cell_al xs.2.2.2.1 _, cell_al xs.2.2.2.2 _⟩
  have hkW := kf.lt
  have hkW2 := kr.lt
  have hszW := hW.size
  clear c_kf c_kr
  go_upto_region 11 with fail
  go_cut [8, 9] (fun pv bv wc => ∃ (g : Nat) (Y : Option Addr) (yc : Nat), pv = .pointer (some ⟨g, 0, none⟩) ∧ bv = .bool true ∧ Blk wc g 40 #[.int .i64 (backI l done), .slice Y pn yc] ∧ wc.ownsRow u7.heap.size 9 1 (.slice Y pn yc) pn (done.map Value.string) ∧ u7.heap.size ≤ g ∧ Below u7.heap.size u7 wc)
  case first =>
    go_region_held3 (fun w' => w'.cell? ⟨w1.heap.size, 0, none⟩ = some (.int .i64 v) ∧ w'.cell? ⟨w1.heap.size, 1, none⟩ = some (.slice F m d) ∧ w'.cell? ⟨w1.heap.size + 1, 0, none⟩ = some (.int .i64 st) ∧ w'.cell? ⟨w1.heap.size + 1, 1, none⟩ = some (.slice P pn pc) ∧ w'.cell? ⟨bx, offx, none⟩ = some (.string x)) (first | with_reducible exact xsd | with_reducible exact xt | with_reducible exact ys | with_reducible exact ⟨cell_al ys.1 _, cell_al ys.2.1 _, cell_al ys.2.2.1 _, cell_al ys.2.2.2.1 _, cell_al ys.2.2.2.2 _⟩ | with_reducible exact ⟨cell_st (cell_st ys.1 nK _) nK _, cell_st (cell_st ys.2.1 nK _) nK _, cell_st (cell_st ys.2.2.1 nR _) nR _, cell_st (cell_st ys.2.2.2.1 nR _) nR _, cell_st (cell_st ys.2.2.2.2 nX _) nX _⟩) ((go_at_call 42; refine (runFail_z v F m d l st P pn pc done x _ (by first | with_reducible exact hf.dr | with_reducible exact (hf.al _).dr) hz hm2 (by first | with_reducible exact hd.dr | with_reducible exact (hd.al _).dr) hpn2 HST.out HB0.out HRX.out).mono ?_; rintro e w7 ⟨Y7, yc7, rfl, hY7, hb7⟩; have hB7 : Below u7.heap.size u7 w7 := (by first | with_reducible exact bel_nx (bel_dr (bel_refl u7)) hb7 | with_reducible exact bel_nx (bel_dr (bel_al (bel_refl u7) _)) hb7); have ys : w7.cell? ⟨w1.heap.size, 0, none⟩ = some (.int .i64 v) ∧ w7.cell? ⟨w1.heap.size, 1, none⟩ = some (.slice F m d) ∧ w7.cell? ⟨w1.heap.size + 1, 0, none⟩ = some (.int .i64 st) ∧ w7.cell? ⟨w1.heap.size + 1, 1, none⟩ = some (.slice P pn pc) ∧ w7.cell? ⟨bx, offx, none⟩ = some (.string x) := ⟨cell_on hB7 a0, cell_on hB7 a1, cell_on hB7 a2, cell_on hB7 a3, cell_on hB7 hcx⟩; (first | (with_reducible have kS := Blk.bel (Blk.dr (Blk.new u7 40 runZ)) hb7; have cS := kS.cell; have fS := kS.frozen) | skip)))
    all_goals
      go_wp2_with fail
      go_meet
      go_light
      first
        | exact ⟨w7.heap.size, Y7, yc7, rfl, rfl, Blk.new _ _ _, ownsRow_base (hY7.alloc _) (Nat.le_refl _), hB7.size, bel_al hB7 _⟩
        | exact ⟨u7.heap.size, Y7, yc7, rfl, rfl, (kS.set_ 0 _).set_ 1 _, ownsRow_base (own_cell2 hY7 kS (by decide)) (by simp), Nat.le_refl _, bel_set (bel_set hB7 (Nat.le_refl _) _) (Nat.le_refl _) _⟩
  case rest =>
    obtain ⟨gx, Y0, yc0, rfl, rfl, kx, hY0, hgx, hbc⟩ := hcut
    have hDc := (SlS.of_own hD).cap
    have hDm := (SlS.of_own hD).max
    have hY0 : wc.ownsRow u7.heap.size 9 1 (.slice Y0 pn yc0) pn ((done.take pn).map Value.string) := by rw [List.take_of_length_le (by rw [hld.out]; omega)]; exact hY0
    have kx : Blk wc gx 40 #[.int .i64 (backI l (done.take pn)), .slice Y0 pn yc0] := by rw [List.take_of_length_le (by rw [hld.out]; omega)]; exact kx
    have n1 : w1.heap.size ≠ gx := by omega
    have n2 : w1.heap.size + 1 ≠ gx := by omega
    go_wp2_with fail
    go_loopw [10] (fun iv wr => ∃ (i r yc : Nat) (Y : Option Addr), i ≤ dn ∧ i + r = pn ∧ iv = .int .i64 (i : Int) ∧ Blk wr gx 40 #[.int .i64 (backI l (done.take r)), .slice Y r yc] ∧ wr.ownsRow u7.heap.size 9 1 (.slice Y r yc) r ((done.take r).map Value.string) ∧ Below u7.heap.size u7 wr) (fun iv _ => dn - (intOf iv).toNat)
    case atStart => exact ⟨0, pn, yc0, Y0, Nat.zero_le _, by omega, rfl, kx, hY0, hbc⟩
    case round =>
      obtain ⟨i, r, yc, Y, hi, hir, rfl, kL, hY, hTr⟩ := hrel
      have hszr := hTr.size
      have hgl := kL.lt
      have hfR := hf.bel hTr
      have kfR := kf.bel hTr
      have cfR := kfR.cell
      have hYc := (SlS.of_own hY).cap
      have hYm := (SlS.of_own hY).max
      by_cases hlt : i < dn
      · obtain ⟨j, rfl⟩ : ∃ j, r = j + 1 := ⟨r - 1, by omega⟩
        obtain ⟨b, off, t, hAD, hxt, hct⟩ := SlS.get (SlS.of_own (own_bel hD hTr)) (i := i) hlt
        subst hAD
        have HT := Lib.hid (plan_at (j := j) (by rw [hld.out]; exact hir) (by omega) hxt)
        have HR1 := Lib.hid (run_back (k := j) HB0.out (by rw [hld.out]; omega) (by rw [HF.out]; omega))
        rw [back_one (k := j) (by rw [hld.out]; omega) (by rw [HF.out]; omega)] at kL
        clear hxt
        have cL := kL.cell
        have i0 : (0 : Int) ≤ (i : Int) := by omega
        have i1 : (i : Int) < (dn : Int) := by omega
        have ett : (t.toList != t.toList) = false := by simp
        go_wp2_with fail
        refine (runUndo_z v F m d l 1 Y j yc done t _ hfR hz (SlS.of_own hY) (by omega) rfl HR1.out HT.out).mono ?_
        rintro e w5 ⟨Y5, yc5, rfl, hY5, hb5⟩
        have kL5 := kL.bel hb5
        have hlg5 := kL5.lt
        have cL5 := kL5.cell
        have fL5 := kL5.frozen
        have hct5 := cell_on hb5 hct
        have hT5 := bel_nx hTr hb5
        have hs5 := hb5.size
        clear cL cfR
        go_wp2_with fail
        go_roundw
        case rel =>
          go_light
          have kL6 := (kL5.al (.cells #[.int .i64 (backI l (done.take j)), .slice Y5 j yc5] 40))
          have K6 := ((kL5.set_ 0 (.int .i64 (backI l (done.take j)))).set_ 1 (.slice Y5 j yc5)).al (.cells #[.int .i64 (backI l (done.take j)), .slice Y5 j yc5] 40)
          exact ⟨i + 1, j, yc5, Y5, by omega, by omega, by go_num, K6, (own_cell2 (ownsRow_base hY5 hszr) kL5 (by decide)).alloc _, ((hT5.setCell hgx _).setCell hgx _).alloc (by simp [World.setCell]; omega) _⟩
        case measure => simp [intOf]; omega
      · have hrf : r = f := by omega
        subst hrf
        have hb3 := back_three (l := l) (done := done)
        rw [HF.out] at hb3
        rw [hb3] at kL
        clear hb3
        have cL := kL.cell
        go_wp2_with fail
        go_ret
        exact ⟨rfl, bel_nx hW hTr⟩

set_option maxRecDepth 100000 in
theorem fnUndoPlan_l (os : Os) (started : os.Started) (H : Type) (enc : TypeId × Value → H) :
    ReturnsInHanded {} Try.checked os 12 .any (Rows.fnUndoPlanSpec.pre6 enc Try.prog Try.f12 Rows.fnUndoPlanRow.domain false) (Rows.fnUndoPlanSpec.post enc Try.prog Try.f12 false true false false) := by
  refine returnsInHanded_of_change (C := Try.checked) own started (by kernel_rfl) Try.func12
    (ChangeSpec.witness6 (enc := enc) (C := Try.checked) false ⟨#[], #[.slice none 0 0], []⟩ 8 (by kernel_rfl) (by kernel_rfl) (by kernel_rfl) (by kernel_rfl)) ?_
  intro W base args ds gs before hval0 hW hcnd _
  have hval : ∀ (j : Nat) t v, Try.f12.params[j]? = some t → args[j]? = some v → Value.okWide Try.prog W .any base t v := hval0
  have hW' := hW
  obtain ⟨p, q, hA0, hV, rfl, hfz, hnd⟩ := hW
  have hA : DataW.TrodAll enc Try.prog W 0 (fun _ => true) true Try.f12.params.toList args.toList ds p := hA0
  rw [Try.params12] at hA hval
  obtain ⟨v0, vs0, d0, ds0, p0, q0, hargs, rfl, rfl, h0, r0⟩ := trodAll_cons hA
  obtain ⟨rfl, rfl, rfl⟩ := trodAll_nil r0
  obtain rfl : args = #[v0] := by cases args; simp_all
  obtain ⟨rfl, rfl⟩ := trodVars_none hV
  have k0 := h0
  have lt0 : ∀ x ∈ p0, x.block < W.heap.size := by obtain ⟨m, hm⟩ := k0; exact DataW.trod_lt m _ _ _ hm
  obtain ⟨A0, n0, c0, rfl⟩ := okWide_slice Try.underlying22 (hval 0 22 v0 rfl rfl)
  obtain ⟨z0, w0⟩ := bytes_row h0 (fun _ => rfl)
  clear hA0 hval0
  refine (fnUndoPlan_w A0 n0 c0 z0 W w0).mono fun e W' ⟨he, bel⟩ => ?_
  subst he
  exact ⟨_, rfl, _, _, _, [], _, [], hW', trodAll_mk1 (shut_bool Try.underlying4 _), (trodAll_cons_mk (Below.trod laidOut (by kernel_rfl) (of_decide_eq_true (by kernel_rfl)) k0 bel lt0) trodAll_mk0), rfl, bel.frame _, fun h => by cases h⟩

theorem fnUndoPlan_holds : Rows.FnUndoPlanSaid :=
  OpenClaim.holds_of_wide 12 Try.f12 rfl rfl rfl rfl rfl rfl rfl ⟨rfl, rfl, rfl, rfl, rfl⟩ rfl rfl rfl rfl rfl (by kernel_rfl) Try.func12 (by kernel_rfl)
    (of_decide_eq_true (by kernel_rfl)) (by unfold Func.isWrapper; first | (rw [if_pos (by decide +kernel)]; kernel_rfl) | (rw [if_neg (by decide +kernel)]; exact ⟨rfl, rfl⟩))
    (fun os started H enc _ => fnUndoPlan_l os started H enc)
#print axioms fnUndoPlan_holds

end Go.Proofs.Ytdchfiiaollheaa
