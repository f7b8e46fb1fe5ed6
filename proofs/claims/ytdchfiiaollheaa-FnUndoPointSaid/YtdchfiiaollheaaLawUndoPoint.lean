/- For every code that a flow and a run are drawn from: the first step that can not be undone is told. No conditions. -/
import Derived.Test.YtdchfiiaollheaaUndoPlain
import Derived.Test.YtdchfiiaollheaaRunDraw4
import Derived.Test.YtdchfiiaollheaaLift
import Derived.Test.YtdchfiiaollheaaUndoPlain2
namespace Go.Proofs.Ytdchfiiaollheaa
open Go.ChangeShapes Go.WideShapes Go.ChangeAt Go.RowKit Go.Joins

set_option maxRecDepth 20000 in
set_option maxHeartbeats 8000000 in
theorem fnUndoPoint_w (A : Option Addr) (n c : Nat) (zs : List Int) (w : World) (h : IsRow .u8 w A n c zs) : Calls Try.prog 11 #[.slice A n c] w fun e w' => e = .returned (.bool true) ∧ Below w.heap.size w w' := by
  obtain ⟨r1, r2⟩ := row_len h
  by_cases hn : 1048576 < n
  · go_enter Try.func11, Try.ntmps11
    go_wp2_with fail
    go_ret
    exact ⟨rfl, Below.refl _ _⟩
  have g1 : (n : Int) ≤ 1048576 := by omega
  clear hn
  go_enter Try.func11, Try.ntmps11
  go_wp2_with fail
  refine (drawUndoPoint_c A n c zs _ h).mono ?_
  rintro e w1 ⟨v, F, m, d, l, st, P, pn, pc, done, rfl, hf, h5, hm, hd, hpn, hW⟩
  have hz := h5.szP
  have hm2 : m ≤ 1048576 := by omega
  have hpn2 : pn ≤ 1048576 := by omega
  have hlm := Lib.hid hf.len
  have hld := Lib.hid hd.len
  have kf := (Blk.new w1 25 #[.int .i64 v, .slice F m d]).al (.cells #[.int .i64 st, .slice P pn pc] 40)
  have kr := Blk.new (w1.alloc (.cells #[.int .i64 v, .slice F m d] 25)) 40 #[.int .i64 st, .slice P pn pc]
  rw [show (w1.alloc (.cells #[.int .i64 v, .slice F m d] 25)).heap.size = w1.heap.size + 1 by simp] at kr
  have hf := (hf.al (.cells #[.int .i64 v, .slice F m d] 25)).al (.cells #[.int .i64 st, .slice P pn pc] 40)
  have hd := (hd.al (.cells #[.int .i64 v, .slice F m d] 25)).al (.cells #[.int .i64 st, .slice P pn pc] 40)
  have hW := bel_al (bel_al hW (.cells #[.int .i64 v, .slice F m d] 25)) (.cells #[.int .i64 st, .slice P pn pc] 40)
  have c_kf := kf.cell
  have c_kr := kr.cell
  go_wp2_with fail
  refine (implUndoPoint_c v F m d l st P pn pc done _ hf hz hm2 hd).mono ?_
  rintro e u1 ⟨rfl, hb1⟩
  have kf := kf.bel hb1
  have kr := kr.bel hb1
  have hf := hf.bel hb1
  have hd := hd.bel hb1
  have hW := bel_nx hW hb1
  have c_kf := kf.cell
  have c_kr := kr.cell
  go_wp2_with fail
  refine (specUndoPoint_c v F m d l st P pn pc done _ hf hz hm2 hd).mono ?_
  rintro e u2 ⟨rfl, hb2⟩
  have kf := kf.bel hb2
  have kr := kr.bel hb2
  have hf := hf.bel hb2
  have hd := hd.bel hb2
  have hW := bel_nx hW hb2
  have c_kf := kf.cell
  have c_kr := kr.cell
  obtain ⟨sp, hsp⟩ : ∃ x, pointP v l st done = x := ⟨_, rfl⟩
  have Hsp := Lib.hid hsp
  clear hsp
  rw [Hsp.out]
  have exx : (sp.toList == sp.toList) = true := by simp
  have exn : (sp.toList != sp.toList) = false := by simp
  by_cases hsp : sp = ⟨#[]⟩
  · have e3 : sp.toList.isEmpty = true := by rw [hsp]; simp
    clear hsp
    go_wp2_with fail
    go_ret
    exact ⟨rfl, hW⟩
  have e3 : sp.toList.isEmpty = false := by
    cases hq : sp.toList with
    | nil => exact absurd (toList_inj (hq.trans (show [] = (⟨#[]⟩ : ByteArray).toList by simp))) hsp
    | cons a b => rfl
  obtain ⟨k, hk1, hk2, hk3, hk4, hk5, hk6⟩ := point_full Hsp.out hsp
  have HK := Lib.hid hk6
  have HLF := Lib.hid hk5
  have hkp : k < pn := by rw [← hld.out]; exact (List.getElem?_eq_some_iff.1 hk1).1
  clear hsp hk1 hk2 hk3 hk5 hk6
  go_wp2_with fail
  refine (placeOf_z P pn pc done sp (k : Int) _ hd hk4).mono ?_
  rintro e u3 ⟨rfl, hpw⟩
  have hb3 := below_of_eq hpw
  clear hpw
  have kf := kf.bel hb3
  have kr := kr.bel hb3
  have hf := hf.bel hb3
  have hd := hd.bel hb3
  have hW := bel_nx hW hb3
  have c_kf := kf.cell
  have c_kr := kr.cell
  clear hk4
  have hPc := hd.cap
  have hPm := hd.max
  go_wp2_with fail
  go_loopw [8] (fun iv wr => ∃ i : Nat, i ≤ k + 1 ∧ iv = .int .i64 (i : Int) ∧ Below u3.heap.size u3 wr) (fun iv _ => k + 1 - (intOf iv).toNat)
  case atStart => exact ⟨0, by omega, rfl, bel_refl _⟩
  case round =>
    obtain ⟨i, hi, rfl, hTr⟩ := hrel
    have kfL := kf.bel hTr
    have krL := kr.bel hTr
    have hfL := hf.bel hTr
    have hdL := hd.bel hTr
    have hWL := bel_nx hW hTr
    clear c_kf c_kr
    by_cases hlt : i ≤ k
    · have dik : decide ((i : Int) ≤ (k : Int)) = true := decide_eq_true (by omega)
      obtain ⟨b, off, t, hA, hx, x2⟩ := SlS.get hdL (i := i) (by omega)
      subst hA
      have kf := kfL
      have kr := krL
      have hf := hfL
      have hd := hdL
      have hW := hWL
      have hgd := HK.out i t hlt hx
      have HB : Hid (findB v l t = true) := Lib.hid hgd.1
      have q0 : (0 : Int) ≤ (i : Int) := by omega
      have q1 : (i : Int) < (pn : Int) := by omega
      by_cases hik : i < k
      · have dk : decide ((i : Int) < (k : Int)) = true := decide_eq_true (by omega)
        have HU : Hid ((findB v l t && undoB l t) = true) := Lib.hid (by rw [hgd.1, hgd.2, decide_eq_true hik]; rfl)
        clear hx hgd
        go_upto_region 12 with fail
        have x3 : wr.cell? ⟨w1.heap.size + 1, 1, none⟩ = some (.slice (some ⟨b, off, none⟩) pn pc) := kr.cell 1
        have nR : w1.heap.size + 1 ≠ wr.heap.size := by have := kr.lt; omega
        have x0 : wr.cell? ⟨w1.heap.size, 0, none⟩ = some (.int .i64 v) := kf.cell 0
        have x1 : wr.cell? ⟨w1.heap.size, 1, none⟩ = some (.slice F m d) := kf.cell 1
        have nK : w1.heap.size ≠ wr.heap.size := by have := kf.lt; omega
        have nB := Nat.ne_of_lt (cell_some_lt (w := wr) (p := ⟨b, off + i, none⟩) (by rw [x2]; rfl))
        go_cut [9, 10] (fun pv bv wc => ∃ (g : Nat) (nm : ByteArray) (D : Option Addr) (m7 d7 : Nat), pv = .pointer (some ⟨g, 0, none⟩) ∧ bv = .bool true ∧ Blk wc g 30 #[.string nm, .slice D m7 d7, .bool true] ∧ Below wr.heap.size wr wc)
        case first =>
          go_region_held3 (fun w' => w'.cell? ⟨w1.heap.size, 0, none⟩ = some (.int .i64 v) ∧ w'.cell? ⟨w1.heap.size, 1, none⟩ = some (.slice F m d) ∧ w'.cell? ⟨b, off + i, none⟩ = some (.string t) ∧ w'.cell? ⟨w1.heap.size + 1, 1, none⟩ = some (.slice (some ⟨b, off, none⟩) pn pc)) (first | with_reducible exact ⟨cell_dr x0, cell_dr x1, cell_dr x2, cell_dr x3⟩ | with_reducible exact ⟨cell_dr (cell_al x0 _), cell_dr (cell_al x1 _), cell_dr (cell_al x2 _), cell_dr (cell_al x3 _)⟩ | with_reducible exact ⟨y0, y1, y2, y3⟩ | with_reducible exact ⟨cell_al y0 _, cell_al y1 _, cell_al y2 _, cell_al y3 _⟩ | with_reducible exact ⟨cell_st (cell_st (cell_st y0 nK _) nK _) nK _, cell_st (cell_st (cell_st y1 nK _) nK _) nK _, cell_st (cell_st (cell_st y2 nB _) nB _) nB _, cell_st (cell_st (cell_st y3 nR _) nR _) nR _⟩) ((go_at_call 33; refine (flowFind_z v F m d l t true true _ (by first | with_reducible exact hf.dr | with_reducible exact (hf.al _).dr) hz HB.out HU.out).mono ?_; rintro e w7 ⟨nm7, D7, m7, d7, rfl, hb7⟩; have hB7 : Below wr.heap.size wr w7 := (by first | with_reducible exact bel_nx (bel_dr (bel_refl wr)) hb7 | with_reducible exact bel_nx (bel_dr (bel_al (bel_refl wr) _)) hb7); have y0 : w7.cell? ⟨w1.heap.size, 0, none⟩ = some (.int .i64 v) := cell_on hB7 x0; have y1 : w7.cell? ⟨w1.heap.size, 1, none⟩ = some (.slice F m d) := cell_on hB7 x1; have y2 : w7.cell? ⟨b, off + i, none⟩ = some (.string t) := cell_on hB7 x2; have y3 : w7.cell? ⟨w1.heap.size + 1, 1, none⟩ = some (.slice (some ⟨b, off, none⟩) pn pc) := cell_on hB7 x3; (first | (with_reducible have kS := Blk.bel (Blk.dr (Blk.new wr 30 stepZ)) hb7; have cS := kS.cell; have fS := kS.frozen) | skip)))
          all_goals
            go_wp2_with fail
            go_meet
            go_light
            first
              | exact ⟨w7.heap.size, nm7, D7, m7, d7, rfl, rfl, Blk.new _ _ _, bel_al hB7 _⟩
              | exact ⟨wr.heap.size, nm7, D7, m7, d7, rfl, rfl, blk3 kS, bel_set (bel_set (bel_set hB7 (Nat.le_refl _) _) (Nat.le_refl _) _) (Nat.le_refl _) _⟩
        case rest =>
          obtain ⟨g, nm, D7, m7, d7, rfl, rfl, kS, hbc⟩ := hcut
          have cS := kS.cell
          go_wp2_with fail
          go_roundw
          case rel => exact ⟨i + 1, by omega, by go_num, bel_nx hTr hbc⟩
          case measure => simp [intOf]; omega
      · have dk : decide ((i : Int) < (k : Int)) = false := decide_eq_false (by omega)
        have HU : Hid ((findB v l t && undoB l t) = false) := Lib.hid (by rw [hgd.1, hgd.2, decide_eq_false hik]; rfl)
        clear hx hgd
        go_upto_region 12 with fail
        have x3 : wr.cell? ⟨w1.heap.size + 1, 1, none⟩ = some (.slice (some ⟨b, off, none⟩) pn pc) := kr.cell 1
        have nR : w1.heap.size + 1 ≠ wr.heap.size := by have := kr.lt; omega
        have x0 : wr.cell? ⟨w1.heap.size, 0, none⟩ = some (.int .i64 v) := kf.cell 0
        have x1 : wr.cell? ⟨w1.heap.size, 1, none⟩ = some (.slice F m d) := kf.cell 1
        have nK : w1.heap.size ≠ wr.heap.size := by have := kf.lt; omega
        have nB := Nat.ne_of_lt (cell_some_lt (w := wr) (p := ⟨b, off + i, none⟩) (by rw [x2]; rfl))
        go_cut [9, 10] (fun pv bv wc => ∃ (g : Nat) (nm : ByteArray) (D : Option Addr) (m7 d7 : Nat), pv = .pointer (some ⟨g, 0, none⟩) ∧ bv = .bool true ∧ Blk wc g 30 #[.string nm, .slice D m7 d7, .bool false] ∧ Below wr.heap.size wr wc)
        case first =>
          go_region_held3 (fun w' => w'.cell? ⟨w1.heap.size, 0, none⟩ = some (.int .i64 v) ∧ w'.cell? ⟨w1.heap.size, 1, none⟩ = some (.slice F m d) ∧ w'.cell? ⟨b, off + i, none⟩ = some (.string t) ∧ w'.cell? ⟨w1.heap.size + 1, 1, none⟩ = some (.slice (some ⟨b, off, none⟩) pn pc)) (first | with_reducible exact ⟨cell_dr x0, cell_dr x1, cell_dr x2, cell_dr x3⟩ | with_reducible exact ⟨cell_dr (cell_al x0 _), cell_dr (cell_al x1 _), cell_dr (cell_al x2 _), cell_dr (cell_al x3 _)⟩ | with_reducible exact ⟨y0, y1, y2, y3⟩ | with_reducible exact ⟨cell_al y0 _, cell_al y1 _, cell_al y2 _, cell_al y3 _⟩ | with_reducible exact ⟨cell_st (cell_st (cell_st y0 nK _) nK _) nK _, cell_st (cell_st (cell_st y1 nK _) nK _) nK _, cell_st (cell_st (cell_st y2 nB _) nB _) nB _, cell_st (cell_st (cell_st y3 nR _) nR _) nR _⟩) ((go_at_call 33; refine (flowFind_z v F m d l t true false _ (by first | with_reducible exact hf.dr | with_reducible exact (hf.al _).dr) hz HB.out HU.out).mono ?_; rintro e w7 ⟨nm7, D7, m7, d7, rfl, hb7⟩; have hB7 : Below wr.heap.size wr w7 := (by first | with_reducible exact bel_nx (bel_dr (bel_refl wr)) hb7 | with_reducible exact bel_nx (bel_dr (bel_al (bel_refl wr) _)) hb7); have y0 : w7.cell? ⟨w1.heap.size, 0, none⟩ = some (.int .i64 v) := cell_on hB7 x0; have y1 : w7.cell? ⟨w1.heap.size, 1, none⟩ = some (.slice F m d) := cell_on hB7 x1; have y2 : w7.cell? ⟨b, off + i, none⟩ = some (.string t) := cell_on hB7 x2; have y3 : w7.cell? ⟨w1.heap.size + 1, 1, none⟩ = some (.slice (some ⟨b, off, none⟩) pn pc) := cell_on hB7 x3; (first | (with_reducible have kS := Blk.bel (Blk.dr (Blk.new wr 30 stepZ)) hb7; have cS := kS.cell; have fS := kS.frozen) | skip)))
          all_goals
            go_wp2_with fail
            go_meet
            go_light
            first
              | exact ⟨w7.heap.size, nm7, D7, m7, d7, rfl, rfl, Blk.new _ _ _, bel_al hB7 _⟩
              | exact ⟨wr.heap.size, nm7, D7, m7, d7, rfl, rfl, blk3 kS, bel_set (bel_set (bel_set hB7 (Nat.le_refl _) _) (Nat.le_refl _) _) (Nat.le_refl _) _⟩
        case rest =>
          obtain ⟨g, nm, D7, m7, d7, rfl, rfl, kS, hbc⟩ := hcut
          have cS := kS.cell
          go_wp2_with fail
          go_roundw
          case rel => exact ⟨i + 1, by omega, by go_num, bel_nx hTr hbc⟩
          case measure => simp [intOf]; omega
    · have dik : decide ((i : Int) ≤ (k : Int)) = false := decide_eq_false (by omega)
      have dk0 : decide ((0 : Int) ≤ (k : Int)) = true := decide_eq_true (by omega)
      have hf := hfL
      have hd := hdL
      have hW := hWL
      have c_kf := kfL.cell
      have c_kr := krL.cell
      go_wp2_with fail
      refine (implUndoLeft_c v F m d l st P pn pc done _ hf hz hm2 hd hpn2).mono ?_
      rintro e w8 ⟨D, dn, dc, rfl, hD, hb8⟩
      go_wp2_with fail
      refine (placeOf_z D dn dc _ sp (k : Int) _ (SlS.of_own hD) HLF.out).mono ?_
      rintro e w9 ⟨rfl, rfl⟩
      go_wp2_with fail
      go_ret
      exact ⟨by simp, bel_nx hW hb8⟩

set_option maxRecDepth 100000 in
theorem fnUndoPoint_l (os : Os) (started : os.Started) (H : Type) (enc : TypeId × Value → H) :
    ReturnsInHanded {} Try.checked os 11 .any (Rows.fnUndoPointSpec.pre6 enc Try.prog Try.f11 Rows.fnUndoPointRow.domain false) (Rows.fnUndoPointSpec.post enc Try.prog Try.f11 false true false false) := by
  refine returnsInHanded_of_change (C := Try.checked) own started (by kernel_rfl) Try.func11
    (ChangeSpec.witness6 (enc := enc) (C := Try.checked) false ⟨#[], #[.slice none 0 0], []⟩ 8 (by kernel_rfl) (by kernel_rfl) (by kernel_rfl) (by kernel_rfl)) ?_
  intro W base args ds gs before hval0 hW hcnd _
  have hval : ∀ (j : Nat) t v, Try.f11.params[j]? = some t → args[j]? = some v → Value.okWide Try.prog W .any base t v := hval0
  have hW' := hW
  obtain ⟨p, q, hA0, hV, rfl, hfz, hnd⟩ := hW
  have hA : DataW.TrodAll enc Try.prog W 0 (fun _ => true) true Try.f11.params.toList args.toList ds p := hA0
  rw [Try.params11] at hA hval
  obtain ⟨v0, vs0, d0, ds0, p0, q0, hargs, rfl, rfl, h0, r0⟩ := trodAll_cons hA
  obtain ⟨rfl, rfl, rfl⟩ := trodAll_nil r0
  obtain rfl : args = #[v0] := by cases args; simp_all
  obtain ⟨rfl, rfl⟩ := trodVars_none hV
  have k0 := h0
  have lt0 : ∀ x ∈ p0, x.block < W.heap.size := by obtain ⟨m, hm⟩ := k0; exact DataW.trod_lt m _ _ _ hm
  obtain ⟨A0, n0, c0, rfl⟩ := okWide_slice Try.underlying22 (hval 0 22 v0 rfl rfl)
  obtain ⟨z0, w0⟩ := bytes_row h0 (fun _ => rfl)
  clear hA0 hval0
  refine (fnUndoPoint_w A0 n0 c0 z0 W w0).mono fun e W' ⟨he, bel⟩ => ?_
  subst he
  exact ⟨_, rfl, _, _, _, [], _, [], hW', trodAll_mk1 (shut_bool Try.underlying4 _), (trodAll_cons_mk (Below.trod laidOut (by kernel_rfl) (of_decide_eq_true (by kernel_rfl)) k0 bel lt0) trodAll_mk0), rfl, bel.frame _, fun h => by cases h⟩

theorem fnUndoPoint_holds : Rows.FnUndoPointSaid :=
  OpenClaim.holds_of_wide 11 Try.f11 rfl rfl rfl rfl rfl rfl rfl ⟨rfl, rfl, rfl, rfl, rfl⟩ rfl rfl rfl rfl rfl (by kernel_rfl) Try.func11 (by kernel_rfl)
    (of_decide_eq_true (by kernel_rfl)) (by unfold Func.isWrapper; first | (rw [if_pos (by decide +kernel)]; kernel_rfl) | (rw [if_neg (by decide +kernel)]; exact ⟨rfl, rfl⟩))
    (fun os started H enc _ => fnUndoPoint_l os started H enc)
#print axioms fnUndoPoint_holds

end Go.Proofs.Ytdchfiiaollheaa
