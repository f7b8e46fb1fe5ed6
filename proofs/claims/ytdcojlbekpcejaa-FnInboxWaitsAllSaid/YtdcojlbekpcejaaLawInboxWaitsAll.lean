/- For every code that an inbox is drawn from: when all that is missing has come, nothing is too early. No conditions. -/
import Derived.Test.YtdcojlbekpcejaaInboxSame
import Derived.Test.YtdcojlbekpcejaaInboxPlain2
import Derived.Test.YtdcojlbekpcejaaLift
import Derived.RegionTactic
import Derived.Deep.Cut
import Derived.Deep.CutRange
import Derived.Deep.CutBlock
import Derived.Deep.DeepCutAuto
import Derived.Deep.RegionWith
namespace Go.Proofs.Ytdcojlbekpcejaa
open Go.ChangeShapes Go.WideShapes Go.ChangeAt Go.RowKit Go.Joins

theorem cell_al {w : World} {p : Addr} {v : Value} (h : w.cell? p = some v) (o : Obj) : (w.alloc o).cell? p = some v := (cell_alloc_some w o p (by rw [h]; rfl)).trans h

set_option maxRecDepth 20000 in
set_option maxHeartbeats 4000000 in
theorem fnInboxWaitsAll_w (A : Option Addr) (n c : Nat) (zs : List Int) (w : World) (h : IsRow .u8 w A n c zs) : Calls Try.prog 9 #[.slice A n c] w fun e w' => e = .returned (.bool true) ∧ Below w.heap.size w w' := by
  obtain ⟨l1, l2⟩ := row_len h
  by_cases hn : 1048576 < n
  · go_enter Try.func9, Try.ntmps9
    go_wp2_with fail
    go_ret
    exact ⟨rfl, Below.refl _ _⟩
  have g1 : (n : Int) ≤ 1048576 := by omega
  clear hn
  go_enter Try.func9, Try.ntmps9
  go_wp2_with fail
  refine (drawInboxWaits_c A n c zs _ h).mono ?_
  rintro e w1 ⟨a, B, m, d, l, rfl, hs, hm, ha1, ha2, hb1⟩
  have hW := hb1
  clear hb1
  go_wp2_with fail
  have hs := hs.al (.cells #[.int .i64 a, .slice B m d] 25)
  have hW := bel_al hW (.cells #[.int .i64 a, .slice B m d] 25)
  have kb := Blk.new w1 25 #[.int .i64 a, .slice B m d]

  refine (implInboxWaits_c a B m d l _ hs (by omega) (by omega)).mono ?_
  rintro e w2 ⟨O, on, oc, rfl, hO, hon, hb2⟩
  have hs := hs.bel hb2
  have kb := kb.bel hb2
  have hW := bel_nx hW hb2
  have c_kb := kb.cell
  have f_kb := kb.frozen
  clear hb2
  go_wp2_with fail
  refine (specInboxWaits_c a B m d l _ hs (by omega) (by omega)).mono ?_
  rintro e w3 ⟨Q, qn, qc, rfl, hQ, hqn, hb3⟩
  have hs := hs.bel hb3
  have kb := kb.bel hb3
  have hW := bel_nx hW hb3
  have hO := own_bel hO hb3
  have c_kb := kb.cell
  have f_kb := kb.frozen
  clear hb3
  go_wp2_with fail
  refine (sameInts_same O Q on oc qn qc (waitsF a l) _ (SlI.of_own hO) (SlI.of_own hQ)).mono ?_
  rintro e w4 ⟨rfl, hb4⟩
  have hs := hs.bel hb4
  have kb := kb.bel hb4
  have hW := bel_nx hW hb4
  have hOs := (SlI.of_own hO).bel hb4
  have hQs := (SlI.of_own hQ).bel hb4
  have c_kb := kb.cell
  have f_kb := kb.frozen
  clear hb4 hO hQ
  obtain rfl : qn = on := by rw [← hQs.len, ← hOs.len]
  by_cases h0 : qn = 0
  · subst h0
    go_wp2_with fail
    refine (sameInts_same O Q 0 oc 0 qc (waitsF a l) _ hOs hQs).mono ?_
    rintro e w5 ⟨rfl, hb5⟩
    go_wp2_with fail
    go_ret
    exact ⟨rfl, bel_nx hW hb5⟩
  have e0 : ((qn : Int) == 0) = false := by simp; omega
  have hcap := hOs.cap
  have hmax := hOs.max
  have HOL := Lib.hid hOs.len
  have hscap := hs.cap
  have hsmax := hs.max
  have hne : waitsF a l ≠ [] := by
    intro e
    have := HOL.out
    rw [e] at this
    simp at this
    omega
  have HNE := Lib.hid hne
  obtain ⟨hva, z, hlast, hzl, hwe, hz2, hz9⟩ := waits_known hne
  have hs4 := hs
  have hW4 : Below w.heap.size w w4 := hW
  have kb4 : Blk w4 w1.heap.size 25 _ := kb
  have hm0 : 0 < m := by rw [← hs.len]; exact List.length_pos_of_mem hzl
  obtain ⟨b0, off0, u0, rfl, hu0, hcu0⟩ := SlI.get hs4 hm0
  have hb0lt : b0 < w4.heap.size := cell_some_lt (p := ⟨b0, off0 + 0, none⟩) (by rw [hcu0]; rfl)
  have hlz : l[m - 1]? = some z := by rw [← hs4.len, ← List.getLast?_eq_getElem?]; exact hlast
  have HLZ := Lib.hid hlz
  have ha0 : 0 ≤ a := (inb_iff.1 hva).1
  have HP := Lib.hid (part_zero hva)
  clear hne hwe hlast hzl hva hu0 hcu0 hlz
  go_wp2_with fail
  have kx0 := Blk.new w4 25 #[.int .i64 a, .slice (some ⟨b0, off0, none⟩) m d]
  go_loopw [7] (fun iv wr => ∃ (i : Nat) (b : Int) (M : Option Addr) (mn mc : Nat) (ml : List Int), i ≤ qn ∧ iv = .int .i64 (i : Int) ∧ Hid (partB a l i b ml) ∧ SlI wr M mn mc ml ∧ Blk wr w4.heap.size 25 #[.int .i64 b, .slice M mn mc] ∧ Hid (∀ q, M = some q → q.block ≠ w4.heap.size ∧ q.block < wr.heap.size) ∧ Below w4.heap.size w4 wr) (fun iv _ => qn - (intOf iv).toNat)
  case atStart => exact ⟨0, a, some ⟨b0, off0, none⟩, m, d, l, Nat.zero_le _, rfl, HP, hs4.al _, kx0, Lib.hid (fun q hq => by cases hq; exact ⟨by show b0 ≠ _; omega, by simp; omega⟩), bel_al (bel_refl _) _⟩
  case round =>
    obtain ⟨i, b, M, mn, mc, ml, hi, rfl, HPi, hM, kx, HMB, hbr⟩ := hrel
    have cx := kx.cell
    have fx := kx.frozen
    have kr := kb4.bel hbr
    have cr := kr.cell
    have fr := kr.frozen
    have hxl := kx.lt
    have hmcap := hM.cap
    have hmmax := hM.max
    by_cases hlt : i < qn
    · obtain ⟨bo, off, y, rfl, hy, hcy⟩ := SlI.get (hOs.bel hbr) hlt
      have hby := part_next HPi.out hy
      have hbv := inb_iff.1 HPi.out.1
      have hyy := waits_at hy
      obtain ⟨b', ml', hT, hge, hlen⟩ := take_next HPi.out.1 (by omega)
      rw [hby] at hT
      have HT := Lib.hid hT
      have HPN := Lib.hid (part_step HPi.out hy hT)
      have hb0' : 0 ≤ b ∧ b ≤ 999 := ⟨hbv.1, hbv.2.1⟩
      have i0 : (0 : Int) ≤ (i : Int) := by omega
      have i1 : (i : Int) < (qn : Int) := by omega
      have hMw : ∀ q, M = some q → q.block ≠ wr.heap.size := fun q hq => Nat.ne_of_lt (HMB.out q hq).2
      have HMW := Lib.hid hMw
      have hbo : bo < wr.heap.size := cell_some_lt (p := ⟨bo, off + i, none⟩) (by rw [hcy]; rfl)
      clear hy hT hbv hge hlen hby hMw
      go_wp2_with fail
      go_cut [8, 9, 10] (fun p8 v9 v10 wc => ∃ (g : Nat) (M' : Option Addr) (mn' mc' : Nat), p8 = .pointer (some ⟨g, 0, none⟩) ∧ v9 = .bool true ∧ v10 = .bool true ∧ Blk wc g 25 #[.int .i64 b', .slice M' mn' mc'] ∧ w4.heap.size < g ∧ SlI wc M' mn' mc' ml' ∧ Blk wc w4.heap.size 25 #[.int .i64 b, .slice M mn mc] ∧ (∀ q, M' = some q → q.block ≠ w4.heap.size ∧ q.block < wc.heap.size) ∧ Below w4.heap.size w4 wc)
      case first =>
        go_region_held3 (fun w' => w'.cell? ⟨w4.heap.size, 0, none⟩ = some (.int .i64 b) ∧ w'.cell? ⟨w4.heap.size, 1, none⟩ = some (.slice M mn mc) ∧ w'.cell? ⟨bo, off + i, none⟩ = some (.int .i64 y) ∧ SlI w' M mn mc ml ∧ Blk w' w4.heap.size 25 #[.int .i64 b, .slice M mn mc] ∧ Below w4.heap.size w4 w') (first | (refine ⟨?_, ?_, ?_, ?_, ?_, ?_⟩ <;> (first | exact cx 0 | exact cx 1 | exact hcy | exact hM.dr | exact kx | exact kx.dr | exact bel_dr hbr)) | (go_split_ands; refine ⟨?_, ?_, ?_, ?_, ?_, ?_⟩ <;> (first | exact cell_on hb7 (by assumption) | exact Sl.bel (by assumption) hb7 | exact Blk.bel (by assumption) hb7 | exact bel_nx (by assumption) hb7)) | (go_split_ands; refine ⟨?_, ?_, ?_, ?_, ?_, ?_⟩ <;> (first | exact (World.cell?_alloc_lt _ _ _ (cell_some_lt (by simp [*]))).trans (by assumption) | exact Sl.al (by assumption) _ | exact Blk.al (by assumption) _ | exact bel_al (by assumption) _ | exact cell_al (cell_on hb7 (show wr.drew.cell? _ = _ from cx 0)) _ | exact cell_al (cell_on hb7 (show wr.drew.cell? _ = _ from cx 1)) _ | exact cell_al (cell_on hb7 (show wr.drew.cell? _ = _ from hcy)) _ | exact (hM.dr.bel hb7).al _ | exact bel_al (bel_nx (bel_dr hbr) hb7) _ | exact (kx.dr.bel hb7).al _ | exact Sl.dr (Sl.al (by assumption) _) | exact bel_dr (bel_al (by assumption) _) | go_keep)) | (go_split_ands; refine ⟨?_, ?_, ?_, ?_, ?_, ?_⟩ <;> (first | (rw [World.cell?_setCell_far _ _ _ _ (by first | omega | (simp; omega) | simp), World.cell?_setCell_far _ _ _ _ (by first | omega | (simp; omega) | simp)]; assumption) | exact Sl.gr (Sl.gr (by assumption) (gr_cell _ wr.heap.size 0 _) HMW.out) (gr_cell _ wr.heap.size 1 _) HMW.out | exact Blk.far (Blk.far (by assumption) (by first | omega | (simp; omega) | simp) _) (by first | omega | (simp; omega) | simp) _ | exact bel_set (bel_set (by assumption) (by first | omega | (simp; omega) | simp) _) (by first | omega | (simp; omega) | simp) _))) ((first | (go_at_call 33; refine (implInboxTake_c b M mn mc ml y _ (by go_split_ands; assumption) (by omega) (by omega)).mono ?_; rw [HT.out]; rintro e w7 ⟨M', mn', mc', rfl, ho7, hb7⟩; try (have kz7 : Blk w7 wr.heap.size 25 #[.int .i64 0, .slice none 0 0] := (by first | exact (Blk.new wr 25 #[.int .i64 0, .slice none 0 0]).bel hb7 | exact (Blk.new wr.drew 25 #[.int .i64 0, .slice none 0 0]).bel hb7 | exact (Blk.new wr 25 #[.int .i64 0, .slice none 0 0]).dr.bel hb7); have cz7 := kz7.cell; have fz7 := kz7.frozen))))
        all_goals
          go_split_ands
          go_wp2_with fail
          go_meet
        all_goals
          have hz7 := hb7.size
          simp at hz7
          have hq7 : ∀ q, M' = some q → w4.heap.size < q.block ∧ q.block < w7.heap.size := fun q hq => by
            have := ho7.lt q.block (by rw [hq]; rfl)
            simp at this
            exact ⟨by omega, by omega⟩
          first
            | exact ⟨w7.heap.size, M', mn', mc', rfl, rfl, rfl, Blk.new w7 _ _, by omega, (SlI.of_own ho7).al _, by assumption, fun q hq => ⟨by have := (hq7 q hq).1; omega, by have := (hq7 q hq).2; simp; omega⟩, by assumption⟩
            | exact ⟨wr.heap.size, M', mn', mc', rfl, rfl, rfl, by simpa using (kz7.set_ 0 (.int .i64 b')).set_ 1 (.slice M' mn' mc'), by omega, SlI.of_own (own_cell (own_cell ho7 kz7 (by decide) 0 _) (kz7.set_ 0 (.int .i64 b')) (by decide) 1 _), by assumption, fun q hq => ⟨by have := (hq7 q hq).1; omega, by have := (hq7 q hq).2; simpa using this⟩, by assumption⟩
      case rest =>
        obtain ⟨g, M', mn', mc', rfl, rfl, rfl, kg, hgl, hM', kx, hMB', hbr⟩ := hcut
        have cx := kx.cell
        have fx := kx.frozen
        have cg := kg.cell
        have fg := kg.frozen
        have HMB' := Lib.hid hMB'
        go_wp2_with fail
        go_roundw
        case rel => exact ⟨i + 1, b', M', mn', mc', ml', by omega, by go_num, HPN, (hM'.gr (gr_cell _ w4.heap.size 0 _) (fun q hq => (HMB'.out q hq).1)).gr (gr_cell _ w4.heap.size 1 _) (fun q hq => (HMB'.out q hq).1), by simpa using (kx.set_ 0 (.int .i64 b')).set_ 1 (.slice M' mn' mc'), Lib.hid (fun q hq => ⟨(HMB'.out q hq).1, by simpa using (HMB'.out q hq).2⟩), bel_set (bel_set hbr (by simp) _) (by simp) _⟩
        case measure => simp [intOf]; omega
    · have hiq : i = qn := by omega
      obtain ⟨z', hl', hbz, hml⟩ := part_end HPi.out HNE.out (by rw [HOL.out, hiq]; exact Nat.le_refl _)
      obtain ⟨m', rfl⟩ : ∃ m', m = m' + 1 := ⟨m - 1, by omega⟩
      obtain ⟨b1, off1, u, hA1, hu, hcu⟩ := SlI.get (hs4.bel hbr) (i := m') (by omega)
      obtain ⟨rfl, rfl⟩ : b0 = b1 ∧ off0 = off1 := by simpa using hA1
      have hmn : mn = 0 := by rw [← hM.len, hml]; rfl
      subst hmn
      have hbu : b = u := by
        rw [List.getLast?_eq_getElem?, hs4.len] at hl'
        have e1 : l[m']? = some z' := hl'
        rw [hu] at e1
        injection e1 with e1
        rw [hbz, ← e1]
      subst hbu
      have j0 : (0 : Int) ≤ (m' : Int) := by omega
      have j1 : (m' : Int) < (m' : Int) + 1 := by omega
      have hwj : IntKind.i64.wrap (m' : Int) = (m' : Int) := by rw [IntKind.wrap_i64]; omega
      clear hl' hbz hml hu hA1 hiq
      have hWr := bel_nx hW4 hbr
      go_wp2_with fail
      try go_quiet (fail)
      try go_wp2_with fail
      go_ret
      exact ⟨rfl, by first | exact hWr | exact bel_drN hWr _ | exact bel_dr hWr⟩

set_option maxRecDepth 100000 in
theorem fnInboxWaitsAll_l (os : Os) (started : os.Started) (H : Type) (enc : TypeId × Value → H) :
    ReturnsInHanded {} Try.checked os 9 .any (Rows.fnInboxWaitsAllSpec.pre6 enc Try.prog Try.f9 Rows.fnInboxWaitsAllRow.domain false) (Rows.fnInboxWaitsAllSpec.post enc Try.prog Try.f9 false true false false) := by
  refine returnsInHanded_of_change (C := Try.checked) own started (by kernel_rfl) Try.func9
    (ChangeSpec.witness6 (enc := enc) (C := Try.checked) false ⟨#[], #[.slice none 0 0], []⟩ 8 (by kernel_rfl) (by kernel_rfl) (by kernel_rfl) (by kernel_rfl)) ?_
  intro W base args ds gs before hval0 hW hcnd _
  have hval : ∀ (j : Nat) t v, Try.f9.params[j]? = some t → args[j]? = some v → Value.okWide Try.prog W .any base t v := hval0
  have hW' := hW
  obtain ⟨p, q, hA0, hV, rfl, hfz, hnd⟩ := hW
  have hA : DataW.TrodAll enc Try.prog W 0 (fun _ => true) true Try.f9.params.toList args.toList ds p := hA0
  rw [Try.params9] at hA hval
  obtain ⟨v0, vs0, d0, ds0, p0, q0, hargs, rfl, rfl, h0, r0⟩ := trodAll_cons hA
  obtain ⟨rfl, rfl, rfl⟩ := trodAll_nil r0
  obtain rfl : args = #[v0] := by cases args; simp_all
  obtain ⟨rfl, rfl⟩ := trodVars_none hV
  have k0 := h0
  have lt0 : ∀ x ∈ p0, x.block < W.heap.size := by obtain ⟨m, hm⟩ := k0; exact DataW.trod_lt m _ _ _ hm
  obtain ⟨A0, n0, c0, rfl⟩ := okWide_slice Try.underlying22 (hval 0 22 v0 rfl rfl)
  obtain ⟨z0, w0⟩ := bytes_row h0 (fun _ => rfl)
  clear hA0 hval0
  refine (fnInboxWaitsAll_w A0 n0 c0 z0 W w0).mono fun e W' ⟨he, bel⟩ => ?_
  subst he
  exact ⟨_, rfl, _, _, _, [], _, [], hW', trodAll_mk1 (shut_bool Try.underlying4 _), (trodAll_cons_mk (Below.trod laidOut (by kernel_rfl) (of_decide_eq_true (by kernel_rfl)) k0 bel lt0) trodAll_mk0), rfl, bel.frame _, fun h => by cases h⟩

theorem fnInboxWaitsAll_holds : Rows.FnInboxWaitsAllSaid :=
  OpenClaim.holds_of_wide 9 Try.f9 rfl rfl rfl rfl rfl rfl rfl ⟨rfl, rfl, rfl, rfl, rfl⟩ rfl rfl rfl rfl rfl (by kernel_rfl) Try.func9 (by kernel_rfl)
    (of_decide_eq_true (by kernel_rfl)) (by unfold Func.isWrapper; first | (rw [if_pos (by decide +kernel)]; kernel_rfl) | (rw [if_neg (by decide +kernel)]; exact ⟨rfl, rfl⟩))
    (fun os started H enc _ => fnInboxWaitsAll_l os started H enc)
#print axioms fnInboxWaitsAll_holds

end Go.Proofs.Ytdcojlbekpcejaa
