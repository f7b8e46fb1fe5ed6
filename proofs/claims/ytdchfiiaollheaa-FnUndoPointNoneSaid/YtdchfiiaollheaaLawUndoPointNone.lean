/- For every code that a flow and a run are drawn from: where no step that is done can not be undone, all is undone. No conditions. -/
import Derived.Test.YtdchfiiaollheaaUndoPlain
import Derived.Test.YtdchfiiaollheaaRunDraw4
import Derived.Test.YtdchfiiaollheaaLift
namespace Go.Proofs.Ytdchfiiaollheaa
open Go.ChangeShapes Go.WideShapes Go.ChangeAt Go.RowKit Go.Joins

set_option maxRecDepth 20000 in
set_option maxHeartbeats 8000000 in
theorem fnUndoPointNone_w (A : Option Addr) (n c : Nat) (zs : List Int) (w : World) (h : IsRow .u8 w A n c zs) : Calls Try.prog 5 #[.slice A n c] w fun e w' => e = .returned (.bool true) ∧ Below w.heap.size w w' := by
  obtain ⟨r1, r2⟩ := row_len h
  by_cases hn : 1048576 < n
  · go_enter Try.func5, Try.ntmps5
    go_wp2_with fail
    go_ret
    exact ⟨rfl, Below.refl _ _⟩
  have g1 : (n : Int) ≤ 1048576 := by omega
  clear hn
  go_enter Try.func5, Try.ntmps5
  go_wp2_with fail
  refine (drawUndoPoint_c A n c zs _ h).mono ?_
  rintro e w1 ⟨v, F, m, d, l, st, P, pn, pc, done, rfl, hf, h5, hm, hd, hpn, hW⟩
  have hz := h5.szP
  have hm2 : m ≤ 1048576 := by omega
  have hpn2 : pn ≤ 1048576 := by omega
  have hlm := Lib.hid hf.len
  have hld := Lib.hid hd.len
  have kf := (Blk.new w1 25 #[.int .i64 v, .slice F m d]).al (.cells #[.int .i64 st, .slice P pn pc] 40)
  have kr := Blk.new (w1.alloc (.cells #[.int .i64 v, .slice F m d] 25)) 40 #[.int .i64 st, .slice P pn pc]
  rw [show (w1.alloc (.cells #[.int .i64 v, .slice F m d] 25)).heap.size = w1.heap.size + 1 by simp] at kr
  have hf := (hf.al (.cells #[.int .i64 v, .slice F m d] 25)).al (.cells #[.int .i64 st, .slice P pn pc] 40)
  have hd := (hd.al (.cells #[.int .i64 v, .slice F m d] 25)).al (.cells #[.int .i64 st, .slice P pn pc] 40)
  have hW := bel_al (bel_al hW (.cells #[.int .i64 v, .slice F m d] 25)) (.cells #[.int .i64 st, .slice P pn pc] 40)
  have c_kf := kf.cell
  have c_kr := kr.cell
  go_wp2_with fail
  refine (implUndoPoint_c v F m d l st P pn pc done _ hf hz hm2 hd).mono ?_
  rintro e u1 ⟨rfl, hb1⟩
  have kf := kf.bel hb1
  have kr := kr.bel hb1
  have hf := hf.bel hb1
  have hd := hd.bel hb1
  have hW := bel_nx hW hb1
  have c_kf := kf.cell
  have c_kr := kr.cell
  go_wp2_with fail
  refine (specUndoPoint_c v F m d l st P pn pc done _ hf hz hm2 hd).mono ?_
  rintro e u2 ⟨rfl, hb2⟩
  have kf := kf.bel hb2
  have kr := kr.bel hb2
  have hf := hf.bel hb2
  have hd := hd.bel hb2
  have hW := bel_nx hW hb2
  have c_kf := kf.cell
  have c_kr := kr.cell
  obtain ⟨bv, hbv⟩ : ∃ x, runB v l st done = x := ⟨_, rfl⟩
  have Hbv := Lib.hid hbv
  clear hbv
  obtain ⟨sp, hsp⟩ : ∃ x, pointP v l st done = x := ⟨_, rfl⟩
  have Hsp := Lib.hid hsp
  clear hsp
  rw [Hsp.out]
  have exx : (sp.toList == sp.toList) = true := by simp
  have exn : (sp.toList != sp.toList) = false := by simp
  go_wp2_with fail
  refine (specRunValid_b v F m d l st P pn pc done bv _ hf hz hm2 hd Hbv.out).mono ?_
  rintro e u3 ⟨rfl, hb3⟩
  have kf := kf.bel hb3
  have kr := kr.bel hb3
  have hf := hf.bel hb3
  have hd := hd.bel hb3
  have hW := bel_nx hW hb3
  have c_kf := kf.cell
  have c_kr := kr.cell
  cases bv
  · go_wp2_with fail
    go_ret
    exact ⟨rfl, hW⟩
  by_cases h2 : st = 2
  · have e2 : (st == 2) = true := by simpa using h2
    clear h2
    go_wp2_with fail
    go_ret
    exact ⟨rfl, hW⟩
  have e2 : (st == 2) = false := by simpa using h2
  have HL := Lib.hid (leftP_some Hbv.out h2)
  have HP := Lib.hid ((pointP_yes Hbv.out).symm.trans Hsp.out)
  have HR := Lib.hid (runB_iff.1 Hbv.out)
  clear h2
  go_wp2_with fail
  refine (implUndoLeft_c v F m d l st P pn pc done _ hf hz hm2 hd hpn2).mono ?_
  rintro e u4 ⟨D, dn, dc, rfl, hD, hb4⟩
  have kf := kf.bel hb4
  have kr := kr.bel hb4
  have hf := hf.bel hb4
  have hd := hd.bel hb4
  have hW := bel_nx hW hb4
  have c_kf := kf.cell
  have c_kr := kr.cell
  have hdn := own_countS hD
  rcases point_cases (l := l) done with ⟨ha, hp⟩ | ⟨k, s, hk, hu, _, hp⟩
  · have hs : sp = ⟨#[]⟩ := HP.out.symm.trans hp
    subst hs
    have h0 : dn = 0 := by rw [hdn, HL.out, firm_all ha]; rfl
    subst h0
    clear hdn ha hp exx exn
    go_wp2_with fail
    go_ret
    exact ⟨rfl, hW⟩
  · have hs : sp = s := HP.out.symm.trans hp
    subst hs
    have hne : sp ≠ ⟨#[]⟩ := name_ne HR.out.1 (done_names HR.out.2.1 _ (List.mem_of_getElem? hk))
    have e3 : sp.toList.isEmpty = false := by
      cases hq : sp.toList with
      | nil => exact absurd (toList_inj (hq.trans (show [] = (⟨#[]⟩ : ByteArray).toList by simp))) hne
      | cons a b => rfl
    have h0 : 0 < dn := by
      have := firm_at hk hu
      have hle := firmP_le (l := l) (done := done)
      rw [hdn, HL.out, List.length_take]; omega
    have e4 : ((dn : Int) == 0) = false := by simp; omega
    clear hdn hk hu hp hne h0
    go_wp2_with fail
    go_ret
    exact ⟨rfl, hW⟩

set_option maxRecDepth 100000 in
theorem fnUndoPointNone_l (os : Os) (started : os.Started) (H : Type) (enc : TypeId × Value → H) :
    ReturnsInHanded {} Try.checked os 5 .any (Rows.fnUndoPointNoneSpec.pre6 enc Try.prog Try.f5 Rows.fnUndoPointNoneRow.domain false) (Rows.fnUndoPointNoneSpec.post enc Try.prog Try.f5 false true false false) := by
  refine returnsInHanded_of_change (C := Try.checked) own started (by kernel_rfl) Try.func5
    (ChangeSpec.witness6 (enc := enc) (C := Try.checked) false ⟨#[], #[.slice none 0 0], []⟩ 8 (by kernel_rfl) (by kernel_rfl) (by kernel_rfl) (by kernel_rfl)) ?_
  intro W base args ds gs before hval0 hW hcnd _
  have hval : ∀ (j : Nat) t v, Try.f5.params[j]? = some t → args[j]? = some v → Value.okWide Try.prog W .any base t v := hval0
  have hW' := hW
  obtain ⟨p, q, hA0, hV, rfl, hfz, hnd⟩ := hW
  have hA : DataW.TrodAll enc Try.prog W 0 (fun _ => true) true Try.f5.params.toList args.toList ds p := hA0
  rw [Try.params5] at hA hval
  obtain ⟨v0, vs0, d0, ds0, p0, q0, hargs, rfl, rfl, h0, r0⟩ := trodAll_cons hA
  obtain ⟨rfl, rfl, rfl⟩ := trodAll_nil r0
  obtain rfl : args = #[v0] := by cases args; simp_all
  obtain ⟨rfl, rfl⟩ := trodVars_none hV
  have k0 := h0
  have lt0 : ∀ x ∈ p0, x.block < W.heap.size := by obtain ⟨m, hm⟩ := k0; exact DataW.trod_lt m _ _ _ hm
  obtain ⟨A0, n0, c0, rfl⟩ := okWide_slice Try.underlying22 (hval 0 22 v0 rfl rfl)
  obtain ⟨z0, w0⟩ := bytes_row h0 (fun _ => rfl)
  clear hA0 hval0
  refine (fnUndoPointNone_w A0 n0 c0 z0 W w0).mono fun e W' ⟨he, bel⟩ => ?_
  subst he
  exact ⟨_, rfl, _, _, _, [], _, [], hW', trodAll_mk1 (shut_bool Try.underlying4 _), (trodAll_cons_mk (Below.trod laidOut (by kernel_rfl) (of_decide_eq_true (by kernel_rfl)) k0 bel lt0) trodAll_mk0), rfl, bel.frame _, fun h => by cases h⟩

theorem fnUndoPointNone_holds : Rows.FnUndoPointNoneSaid :=
  OpenClaim.holds_of_wide 5 Try.f5 rfl rfl rfl rfl rfl rfl rfl ⟨rfl, rfl, rfl, rfl, rfl⟩ rfl rfl rfl rfl rfl (by kernel_rfl) Try.func5 (by kernel_rfl)
    (of_decide_eq_true (by kernel_rfl)) (by unfold Func.isWrapper; first | (rw [if_pos (by decide +kernel)]; kernel_rfl) | (rw [if_neg (by decide +kernel)]; exact ⟨rfl, rfl⟩))
    (fun os started H enc _ => fnUndoPointNone_l os started H enc)
#print axioms fnUndoPointNone_holds

end Go.Proofs.Ytdchfiiaollheaa
