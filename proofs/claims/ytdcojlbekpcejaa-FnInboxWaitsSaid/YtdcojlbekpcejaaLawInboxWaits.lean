/- For every code that an inbox is drawn from: what is missing has not come, ascends, and begins behind the count. No conditions. -/
import Derived.Test.YtdcojlbekpcejaaInboxSame
import Derived.Test.YtdcojlbekpcejaaInboxPlain2
import Derived.Test.YtdcojlbekpcejaaLift
import Derived.RegionTactic
import Derived.Deep.RegionWith
namespace Go.Proofs.Ytdcojlbekpcejaa
open Go.ChangeShapes Go.WideShapes Go.ChangeAt Go.RowKit Go.Joins

set_option maxRecDepth 20000 in
set_option maxHeartbeats 4000000 in
theorem fnInboxWaits_w (A : Option Addr) (n c : Nat) (zs : List Int) (w : World) (h : IsRow .u8 w A n c zs) : Calls Try.prog 7 #[.slice A n c] w fun e w' => e = .returned (.bool true) ∧ Below w.heap.size w w' := by
  obtain ⟨l1, l2⟩ := row_len h
  by_cases hn : 1048576 < n
  · go_enter Try.func7, Try.ntmps7
    go_wp2_with fail
    go_ret
    exact ⟨rfl, Below.refl _ _⟩
  have g1 : (n : Int) ≤ 1048576 := by omega
  clear hn
  go_enter Try.func7, Try.ntmps7
  go_wp2_with fail
  refine (drawInboxWaits_c A n c zs _ h).mono ?_
  rintro e w1 ⟨a, B, m, d, l, rfl, hs, hm, ha1, ha2, hb1⟩
  have hW := hb1
  clear hb1
  go_wp2_with fail
  have hs := hs.al (.cells #[.int .i64 a, .slice B m d] 25)
  have hW := bel_al hW (.cells #[.int .i64 a, .slice B m d] 25)
  have kb := Blk.new w1 25 #[.int .i64 a, .slice B m d]

  refine (implInboxWaits_c a B m d l _ hs (by omega) (by omega)).mono ?_
  rintro e w2 ⟨O, on, oc, rfl, hO, hon, hb2⟩
  have hs := hs.bel hb2
  have kb := kb.bel hb2
  have hW := bel_nx hW hb2
  have c_kb := kb.cell
  have f_kb := kb.frozen
  clear hb2
  go_wp2_with fail
  refine (specInboxWaits_c a B m d l _ hs (by omega) (by omega)).mono ?_
  rintro e w3 ⟨Q, qn, qc, rfl, hQ, hqn, hb3⟩
  have hs := hs.bel hb3
  have kb := kb.bel hb3
  have hW := bel_nx hW hb3
  have hO := own_bel hO hb3
  have c_kb := kb.cell
  have f_kb := kb.frozen
  clear hb3
  go_wp2_with fail
  refine (sameInts_same O Q on oc qn qc (waitsF a l) _ (SlI.of_own hO) (SlI.of_own hQ)).mono ?_
  rintro e w4 ⟨rfl, hb4⟩
  have hs := hs.bel hb4
  have kb := kb.bel hb4
  have hW := bel_nx hW hb4
  have hOs := (SlI.of_own hO).bel hb4
  have hQs := (SlI.of_own hQ).bel hb4
  have c_kb := kb.cell
  have f_kb := kb.frozen
  clear hb4 hO hQ
  obtain rfl : qn = on := by rw [← hQs.len, ← hOs.len]
  by_cases h0 : qn = 0
  · subst h0
    go_wp2_with fail
    refine (sameInts_same O Q 0 oc 0 qc (waitsF a l) _ hOs hQs).mono ?_
    rintro e w5 ⟨rfl, hb5⟩
    go_wp2_with fail
    go_ret
    exact ⟨rfl, bel_nx hW hb5⟩
  have e0 : ((qn : Int) == 0) = false := by simp; omega
  have hcap := hOs.cap
  have hmax := hOs.max
  have HOL := Lib.hid hOs.len
  have hscap := hs.cap
  have hsmax := hs.max
  go_wp2_with fail
  go_loopw [6] (fun iv wr => ∃ i : Nat, i ≤ qn ∧ iv = .int .i64 (i : Int) ∧ Below w4.heap.size w4 wr) (fun iv _ => qn - (intOf iv).toNat)
  case atStart => exact ⟨0, Nat.zero_le _, rfl, Below.refl _ _⟩
  case round =>
    obtain ⟨i, hi, rfl, hbr⟩ := hrel
    have kr := kb.bel hbr
    have cr := kr.cell
    have fr := kr.frozen
    have hsr := hs.bel hbr
    have hWr := bel_nx hW hbr
    by_cases hlt : i < qn
    · obtain ⟨b, off, y, rfl, hy, hcy⟩ := SlI.get (hOs.bel hbr) hlt
      have HY := Lib.hid (waits_at hy).1
      have i0 : (0 : Int) ≤ (i : Int) := by omega
      have i1 : (i : Int) < (qn : Int) := by omega
      rcases Nat.eq_zero_or_pos i with hi0 | hi0
      · subst hi0
        clear hy
        rw [Nat.add_zero] at hcy
        go_wp2_with fail
        refine wp_region_held_drew (S := (fun w' => w'.cell? ⟨w1.heap.size, 0, none⟩ = some (.int .i64 a) ∧ w'.cell? ⟨w1.heap.size, 1, none⟩ = some (.slice B m d) ∧ w'.cell? ⟨b, off, none⟩ = some (.int .i64 y) ∧ SlI w' B m d l ∧ Below w4.heap.size w4 w')) (by kernel_rfl) ?_ (fun hHeld => ?_)
        · (refine ⟨?_, ?_, ?_, ?_, ?_⟩ <;> (first | exact cr 0 | exact cr 1 | exact hcy | exact hsr.dr | exact bel_dr hbr))
        refine wpAnyH_take (i := 0) (v := ?_) rfl (by kernel_rfl) (by kernel_rfl) (by kernel_rfl) (fun _ _ _ h => h) (Or.inl ⟨by kernel_rfl, ?_⟩) (by assumption) ?_
        rotate_left 1
        · intro w' hSw; (try dsimp only at hSw); go_simp; try with_reducible rfl
        simp only [Act.put, List.getElem_toArray, List.getElem_cons_zero, List.setIfInBounds_toArray, List.set_cons_zero, List.set_cons_succ]
        refine wpAnyH_take (i := 1) (v := ?_) rfl (by kernel_rfl) (by kernel_rfl) (by kernel_rfl) (fun _ _ _ h => h) (Or.inl ⟨by kernel_rfl, ?_⟩) (by assumption) ?_
        rotate_left 1
        · intro w' hSw; (try dsimp only at hSw); go_simp; try with_reducible rfl
        simp only [Act.put, List.getElem_toArray, List.getElem_cons_zero, List.getElem_cons_succ, List.setIfInBounds_toArray, List.set_cons_zero, List.set_cons_succ]
        refine wpAnyH_take (i := 2) (v := ?_) rfl (by kernel_rfl) (by kernel_rfl) (by kernel_rfl) (fun _ _ _ h => h) (Or.inl ⟨by kernel_rfl, ?_⟩) (by assumption) ?_
        rotate_left 1
        · intro w' hSw; (try dsimp only at hSw); go_simp; try with_reducible rfl
        simp only [Act.put, List.getElem_toArray, List.getElem_cons_zero, List.getElem_cons_succ, List.setIfInBounds_toArray, List.set_cons_zero, List.set_cons_succ]
        refine wpAnyH_take (i := 3) (v := ?_) rfl (by kernel_rfl) (by kernel_rfl) (by kernel_rfl) (fun _ _ _ h => h) (Or.inl ⟨by kernel_rfl, ?_⟩) (by assumption) ?_
        rotate_left 1
        · intro w' hSw; (try dsimp only at hSw); go_simp; try with_reducible rfl
        simp only [Act.put, List.getElem_toArray, List.getElem_cons_zero, List.getElem_cons_succ, List.setIfInBounds_toArray, List.set_cons_zero, List.set_cons_succ]
        refine wpAnyH_take (i := 4) (v := ?_) rfl (by kernel_rfl) (by kernel_rfl) (by kernel_rfl) (fun _ _ _ h => h) (Or.inl ⟨by kernel_rfl, ?_⟩) (by assumption) ?_
        rotate_left 1
        · intro w' hSw; (try dsimp only at hSw); go_simp; try with_reducible rfl
        simp only [Act.put, List.getElem_toArray, List.getElem_cons_zero, List.getElem_cons_succ, List.setIfInBounds_toArray, List.set_cons_zero, List.set_cons_succ]
        refine wpAnyH_ready (rs := [5]) (by kernel_rfl) (by simp) ?_
        refine AllReadyH.cons rfl (fun K hK => ?_) AllReadyH.nil
        go_simp
        go_at_call 23
        refine (implInboxHas_c a B m d l y _ (by go_split_ands; assumption) (by omega) (by omega)).mono ?_
        rw [HY.out]
        rintro e w7 ⟨rfl, hb7⟩
        refine hK.out _ _ ?_ (fun hHeld => ?_)
        · (go_split_ands; refine ⟨?_, ?_, ?_, ?_, ?_⟩ <;> (first | exact cell_on hb7 (by assumption) | exact Sl.bel (by assumption) hb7 | exact bel_nx (by assumption) hb7))
        clear hK K
        try simp only [Act.put, List.getElem_toArray, List.getElem_cons_zero, List.getElem_cons_succ, List.setIfInBounds_toArray, List.set_cons_zero, List.set_cons_succ]
        refine wpAnyH_take (i := 6) (v := ?_) rfl (by kernel_rfl) (by kernel_rfl) (by kernel_rfl) (fun _ _ _ h => h) (Or.inl ⟨by kernel_rfl, ?_⟩) (by assumption) ?_
        rotate_left 1
        · intro w' hSw; (try dsimp only at hSw); go_simp; try with_reducible rfl
        simp only [Act.put, List.getElem_toArray, List.getElem_cons_zero, List.getElem_cons_succ, List.setIfInBounds_toArray, List.set_cons_zero, List.set_cons_succ]
        refine wpAnyH_take (i := 7) (v := ?_) rfl (by kernel_rfl) (by kernel_rfl) (by kernel_rfl) (fun _ _ _ h => h) (Or.inl ⟨by kernel_rfl, ?_⟩) (by assumption) ?_
        rotate_left 1
        · intro w' hSw; (try dsimp only at hSw); go_simp; try with_reducible rfl
        simp only [Act.put, List.getElem_toArray, List.getElem_cons_zero, List.getElem_cons_succ, List.setIfInBounds_toArray, List.set_cons_zero, List.set_cons_succ]
        refine wpAnyH_take (i := 8) (v := ?_) rfl (by kernel_rfl) (by kernel_rfl) (by kernel_rfl) (fun _ _ _ h => h) (Or.inl ⟨by kernel_rfl, ?_⟩) (by assumption) ?_
        rotate_left 1
        · intro w' hSw; (try dsimp only at hSw); go_simp; try with_reducible rfl
        simp only [Act.put, List.getElem_toArray, List.getElem_cons_zero, List.getElem_cons_succ, List.setIfInBounds_toArray, List.set_cons_zero, List.set_cons_succ]
        refine wpAnyH_take (i := 9) (v := ?_) rfl (by kernel_rfl) (by kernel_rfl) (by kernel_rfl) (fun _ _ _ h => h) (Or.inl ⟨by kernel_rfl, ?_⟩) (by assumption) ?_
        rotate_left 1
        · intro w' hSw; (try dsimp only at hSw); go_simp; try with_reducible rfl
        simp only [Act.put, List.getElem_toArray, List.getElem_cons_zero, List.getElem_cons_succ, List.setIfInBounds_toArray, List.set_cons_zero, List.set_cons_succ]
        refine wpAnyH_take (i := 10) (v := undef) rfl (by kernel_rfl) (by kernel_rfl) (by kernel_rfl) (fun _ _ _ h => h) (Or.inr ⟨by kernel_rfl, rfl⟩) (by assumption) ?_
        simp only [Act.put, List.getElem_toArray, List.getElem_cons_zero, List.getElem_cons_succ, List.setIfInBounds_toArray, List.set_cons_zero, List.set_cons_succ]
        refine wpAnyH_take (i := 11) (v := undef) rfl (by kernel_rfl) (by kernel_rfl) (by kernel_rfl) (fun _ _ _ h => h) (Or.inr ⟨by kernel_rfl, rfl⟩) (by assumption) ?_
        simp only [Act.put, List.getElem_toArray, List.getElem_cons_zero, List.getElem_cons_succ, List.setIfInBounds_toArray, List.set_cons_zero, List.set_cons_succ]
        refine wpAnyH_take (i := 12) (v := undef) rfl (by kernel_rfl) (by kernel_rfl) (by kernel_rfl) (fun _ _ _ h => h) (Or.inr ⟨by kernel_rfl, rfl⟩) (by assumption) ?_
        simp only [Act.put, List.getElem_toArray, List.getElem_cons_zero, List.getElem_cons_succ, List.setIfInBounds_toArray, List.set_cons_zero, List.set_cons_succ]
        refine wpAnyH_take (i := 13) (v := undef) rfl (by kernel_rfl) (by kernel_rfl) (by kernel_rfl) (fun _ _ _ h => h) (Or.inr ⟨by kernel_rfl, rfl⟩) (by assumption) ?_
        simp only [Act.put, List.getElem_toArray, List.getElem_cons_zero, List.getElem_cons_succ, List.setIfInBounds_toArray, List.set_cons_zero, List.set_cons_succ]
        refine wpAnyH_take (i := 14) (v := undef) rfl (by kernel_rfl) (by kernel_rfl) (by kernel_rfl) (fun _ _ _ h => h) (Or.inr ⟨by kernel_rfl, rfl⟩) (by assumption) ?_
        simp only [Act.put, List.getElem_toArray, List.getElem_cons_zero, List.getElem_cons_succ, List.setIfInBounds_toArray, List.set_cons_zero, List.set_cons_succ]
        refine wpAnyH_take (i := 15) (v := undef) rfl (by kernel_rfl) (by kernel_rfl) (by kernel_rfl) (fun _ _ _ h => h) (Or.inr ⟨by kernel_rfl, rfl⟩) (by assumption) ?_
        simp only [Act.put, List.getElem_toArray, List.getElem_cons_zero, List.getElem_cons_succ, List.setIfInBounds_toArray, List.set_cons_zero, List.set_cons_succ]
        refine wpAnyH_take (i := 16) (v := undef) rfl (by kernel_rfl) (by kernel_rfl) (by kernel_rfl) (fun _ _ _ h => h) (Or.inr ⟨by kernel_rfl, rfl⟩) (by assumption) ?_
        simp only [Act.put, List.getElem_toArray, List.getElem_cons_zero, List.getElem_cons_succ, List.setIfInBounds_toArray, List.set_cons_zero, List.set_cons_succ]
        refine wpAnyH_take (i := 17) (v := undef) rfl (by kernel_rfl) (by kernel_rfl) (by kernel_rfl) (fun _ _ _ h => h) (Or.inr ⟨by kernel_rfl, rfl⟩) (by assumption) ?_
        simp only [Act.put, List.getElem_toArray, List.getElem_cons_zero, List.getElem_cons_succ, List.setIfInBounds_toArray, List.set_cons_zero, List.set_cons_succ]
        refine wpAnyH_take (i := 18) (v := undef) rfl (by kernel_rfl) (by kernel_rfl) (by kernel_rfl) (fun _ _ _ h => h) (Or.inr ⟨by kernel_rfl, rfl⟩) (by assumption) ?_
        simp only [Act.put, List.getElem_toArray, List.getElem_cons_zero, List.getElem_cons_succ, List.setIfInBounds_toArray, List.set_cons_zero, List.set_cons_succ]
        refine wpAnyH_take (i := 19) (v := undef) rfl (by kernel_rfl) (by kernel_rfl) (by kernel_rfl) (fun _ _ _ h => h) (Or.inr ⟨by kernel_rfl, rfl⟩) (by assumption) ?_
        simp only [Act.put, List.getElem_toArray, List.getElem_cons_zero, List.getElem_cons_succ, List.setIfInBounds_toArray, List.set_cons_zero, List.set_cons_succ]
        refine wpAnyH_take (i := 20) (v := ?_) rfl (by kernel_rfl) (by kernel_rfl) (by kernel_rfl) (fun _ _ _ h => h) (Or.inl ⟨by kernel_rfl, ?_⟩) (by assumption) ?_
        rotate_left 1
        · intro w' hSw; (try dsimp only at hSw); go_simp; try with_reducible rfl
        simp only [Act.put, List.getElem_toArray, List.getElem_cons_zero, List.getElem_cons_succ, List.setIfInBounds_toArray, List.set_cons_zero, List.set_cons_succ]
        refine wpAnyH_take (i := 21) (v := ?_) rfl (by kernel_rfl) (by kernel_rfl) (by kernel_rfl) (fun _ _ _ h => h) (Or.inl ⟨by kernel_rfl, ?_⟩) (by assumption) ?_
        rotate_left 1
        · intro w' hSw; (try dsimp only at hSw); go_simp; try with_reducible rfl
        simp only [Act.put, List.getElem_toArray, List.getElem_cons_zero, List.getElem_cons_succ, List.setIfInBounds_toArray, List.set_cons_zero, List.set_cons_succ]
        refine wpAnyH_done (by kernel_rfl) ?_ _
        go_split_ands
        have hB7 : Below w4.heap.size w4 w7 := by assumption
        go_wp2_with fail
        go_roundw
        case rel => exact ⟨1, by omega, by go_num, hB7⟩
        case measure => simp [intOf]; omega
      · obtain ⟨j, rfl⟩ : ∃ j, i = j + 1 := ⟨i - 1, by omega⟩
        obtain ⟨b', off', x, hA', hx, hcx⟩ := SlI.get (hOs.bel hbr) (i := j) (by omega)
        obtain ⟨rfl, rfl⟩ : b = b' ∧ off = off' := by simpa using hA'
        have hxy := waits_lt hx hy (by omega)
        have dxy : decide (y ≤ x) = false := decide_eq_false (by omega)
        clear hy hx hA' hxy
        have hwj : IntKind.i64.wrap (j : Int) = (j : Int) := by rw [IntKind.wrap_i64]; omega
        have dj : decide ((0 : Int) < (j : Int) + 1) = true := decide_eq_true (by omega)
        have j0 : (0 : Int) ≤ (j : Int) := by omega
        have j1 : (j : Int) < (qn : Int) := by omega
        have jj0 : (0 : Int) ≤ (j : Int) + 1 := by omega
        have jj1 : (j : Int) + 1 < (qn : Int) := by omega
        go_wp2_with fail
        go_region_held3 (fun w' => w'.cell? ⟨w1.heap.size, 0, none⟩ = some (.int .i64 a) ∧ w'.cell? ⟨w1.heap.size, 1, none⟩ = some (.slice B m d) ∧ w'.cell? ⟨b, off + (j + 1), none⟩ = some (.int .i64 y) ∧ w'.cell? ⟨b, off + j, none⟩ = some (.int .i64 x) ∧ SlI w' B m d l ∧ Below w4.heap.size w4 w') (first | (refine ⟨?_, ?_, ?_, ?_, ?_, ?_⟩ <;> (first | exact cr 0 | exact cr 1 | exact hcy | exact hcx | exact hsr | exact hsr.dr | exact hbr | exact bel_dr hbr)) | (go_split_ands; refine ⟨?_, ?_, ?_, ?_, ?_, ?_⟩ <;> (first | exact cell_on hb7 (by assumption) | exact Sl.bel (by assumption) hb7 | exact bel_nx (by assumption) hb7)) | (go_split_ands; refine ⟨?_, ?_, ?_, ?_, ?_, ?_⟩ <;> (first | assumption | exact Sl.dr (by assumption) | exact bel_dr (by assumption)))) ((first | (go_at_call 23; refine (implInboxHas_c a B m d l y _ (by go_split_ands; assumption) (by omega) (by omega)).mono ?_; rw [HY.out]; rintro e w7 ⟨rfl, hb7⟩)))
        go_split_ands
        have hB7 : Below w4.heap.size w4 w7 := by assumption
        go_wp2_with fail
        go_roundw
        case rel => exact ⟨j + 1 + 1, by omega, by go_num, hB7⟩
        case measure => simp [intOf]; omega
    · obtain rfl : i = qn := by omega
      obtain ⟨b, off, y, rfl, hy, hcy⟩ := SlI.get (hOs.bel hbr) (i := 0) (by omega)
      obtain rfl := waits_head hy
      clear hy
      rw [Nat.add_zero] at hcy
      have q0 : (0 : Int) < (i : Int) := by omega
      have hwa : IntKind.i64.wrap (a + 1) = a + 1 := by rw [IntKind.wrap_i64]; omega
      go_wp2_with fail
      try go_quiet (fail)
      try go_wp2_with fail
      go_ret
      exact ⟨ret_bool (by simp), by first | exact hWr | exact bel_drN hWr _ | exact bel_dr hWr⟩

set_option maxRecDepth 100000 in
theorem fnInboxWaits_l (os : Os) (started : os.Started) (H : Type) (enc : TypeId × Value → H) :
    ReturnsInHanded {} Try.checked os 7 .any (Rows.fnInboxWaitsSpec.pre6 enc Try.prog Try.f7 Rows.fnInboxWaitsRow.domain false) (Rows.fnInboxWaitsSpec.post enc Try.prog Try.f7 false true false false) := by
  refine returnsInHanded_of_change (C := Try.checked) own started (by kernel_rfl) Try.func7
    (ChangeSpec.witness6 (enc := enc) (C := Try.checked) false ⟨#[], #[.slice none 0 0], []⟩ 8 (by kernel_rfl) (by kernel_rfl) (by kernel_rfl) (by kernel_rfl)) ?_
  intro W base args ds gs before hval0 hW hcnd _
  have hval : ∀ (j : Nat) t v, Try.f7.params[j]? = some t → args[j]? = some v → Value.okWide Try.prog W .any base t v := hval0
  have hW' := hW
  obtain ⟨p, q, hA0, hV, rfl, hfz, hnd⟩ := hW
  have hA : DataW.TrodAll enc Try.prog W 0 (fun _ => true) true Try.f7.params.toList args.toList ds p := hA0
  rw [Try.params7] at hA hval
  obtain ⟨v0, vs0, d0, ds0, p0, q0, hargs, rfl, rfl, h0, r0⟩ := trodAll_cons hA
  obtain ⟨rfl, rfl, rfl⟩ := trodAll_nil r0
  obtain rfl : args = #[v0] := by cases args; simp_all
  obtain ⟨rfl, rfl⟩ := trodVars_none hV
  have k0 := h0
  have lt0 : ∀ x ∈ p0, x.block < W.heap.size := by obtain ⟨m, hm⟩ := k0; exact DataW.trod_lt m _ _ _ hm
  obtain ⟨A0, n0, c0, rfl⟩ := okWide_slice Try.underlying22 (hval 0 22 v0 rfl rfl)
  obtain ⟨z0, w0⟩ := bytes_row h0 (fun _ => rfl)
  clear hA0 hval0
  refine (fnInboxWaits_w A0 n0 c0 z0 W w0).mono fun e W' ⟨he, bel⟩ => ?_
  subst he
  exact ⟨_, rfl, _, _, _, [], _, [], hW', trodAll_mk1 (shut_bool Try.underlying4 _), (trodAll_cons_mk (Below.trod laidOut (by kernel_rfl) (of_decide_eq_true (by kernel_rfl)) k0 bel lt0) trodAll_mk0), rfl, bel.frame _, fun h => by cases h⟩

theorem fnInboxWaits_holds : Rows.FnInboxWaitsSaid :=
  OpenClaim.holds_of_wide 7 Try.f7 rfl rfl rfl rfl rfl rfl rfl ⟨rfl, rfl, rfl, rfl, rfl⟩ rfl rfl rfl rfl rfl (by kernel_rfl) Try.func7 (by kernel_rfl)
    (of_decide_eq_true (by kernel_rfl)) (by unfold Func.isWrapper; first | (rw [if_pos (by decide +kernel)]; kernel_rfl) | (rw [if_neg (by decide +kernel)]; exact ⟨rfl, rfl⟩))
    (fun os started H enc _ => fnInboxWaits_l os started H enc)
#print axioms fnInboxWaits_holds

end Go.Proofs.Ytdcojlbekpcejaa
