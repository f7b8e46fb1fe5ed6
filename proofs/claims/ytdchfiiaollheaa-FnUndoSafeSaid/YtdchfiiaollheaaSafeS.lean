/- Safe flows by the reference: l23Ahead, l23Open, UndoSafe. -/
import Derived.Test.YtdchfiiaollheaaBehS
import Derived.Test.YtdchfiiaollheaaUndo1
import Derived.Deep.RegionHeld3
import Derived.Deep.Cut
import Derived.Deep.Light
namespace Go.Proofs.Ytdchfiiaollheaa
open Go.RowKit

theorem isBeh_at {v : Int} {l : List Stp} {s : ByteArray} {m : List ByteArray} (h : IsBeh v l s m) (x : ByteArray) {b : Bool} (hb : behB v l s x = b) : inB m x = b := (h x).trans hb

set_option maxRecDepth 20000 in
set_option maxHeartbeats 4000000 in
theorem l23Ahead_c (v : Int) (A : Option Addr) (n c : Nat) (l : List Stp) (s : ByteArray) (w : World) (h : SlP w A n c l) (hz : SzP l) (hn : n ≤ 1048576) : Calls Try.prog 84 #[.agg #[.int .i64 v, .slice A n c], .string s] w fun e w' =>
    ∃ (D : Option Addr) (dn dc : Nat), e = .returned (.slice D dn dc) ∧ w'.ownsRow w.heap.size 9 1 (.slice D dn dc) dn ((aheadL v l s).map Value.string) ∧ Below w.heap.size w w' := by
  obtain ⟨i0, hi0, hz0, hz1, hz2⟩ := info_parts str_info
  have HL := Lib.hid h.len
  have hcap := h.cap
  have hmax := h.max
  have kf := (Blk.new w 25 #[.int .i64 v, .slice A n c]).al (.cells #[] 9)
  have hW := bel_al (bel_al (bel_refl w) (.cells #[.int .i64 v, .slice A n c] 25)) (.cells #[] 9)
  have hT := ownsRow_base (B' := w.heap.size) (texts_new (w.alloc (.cells #[.int .i64 v, .slice A n c] 25))) (by simp)
  rw [show (w.alloc (.cells #[.int .i64 v, .slice A n c] 25)).heap.size = w.heap.size + 1 by simp] at hT
  go_enter Try.func84, Try.ntmps84
  go_wp2_with fail
  go_loopw [5, 6] (fun dv iv wr => ∃ (k dn dc : Nat) (D : Option Addr), k ≤ n ∧ iv = .int .i64 (k : Int) ∧ dv = .slice D dn dc ∧ wr.ownsRow w.heap.size 9 1 (.slice D dn dc) dn ((((l.take k).filter (fun q => behB v l q.name s)).map Stp.name).map Value.string) ∧ dn ≤ k ∧ Blk wr w.heap.size 25 #[.int .i64 v, .slice A n c] ∧ Below w.heap.size w wr) (fun _ iv _ => n - (intOf iv).toNat)
  case atStart => exact ⟨0, 0, 0, _, Nat.zero_le _, rfl, rfl, hT, Nat.le_refl _, kf, hW⟩
  case round =>
    obtain ⟨k, dn, dc, D, hk, rfl, rfl, hD, hdn, kfL, hbr⟩ := hrel
    have cfL := kfL.cell
    have hsz := hbr.size
    by_cases hlt : k < n
    · obtain ⟨b, off, t, B, m, d, af, u, hA, hx, hc0w, _, _, _⟩ := SlP.get h hlt
      subst hA
      have hc0 := cell_on hbr hc0w
      have HX := Lib.hid hx
      clear hx
      have k0 : (0 : Int) ≤ (k : Int) := by omega
      have k1 : (k : Int) < (n : Int) := by omega
      have x0 : wr.cell? ⟨w.heap.size, 0, none⟩ = some (.int .i64 v) := kfL.cell 0
      have x1 : wr.cell? ⟨w.heap.size, 1, none⟩ = some (.slice (some ⟨b, off, none⟩) n c) := kfL.cell 1
      obtain ⟨bb, hbb⟩ : ∃ x, behB v l t s = x := ⟨_, rfl⟩
      have HBB := Lib.hid hbb
      clear hbb
      go_wp2_with fail
      have xs : wr.drew.cell? ⟨w.heap.size, 0, none⟩ = some (.int .i64 v) ∧ wr.drew.cell? ⟨w.heap.size, 1, none⟩ = some (.slice (some ⟨b, off, none⟩) n c) ∧ wr.drew.cell? ⟨b, off + k * 3, none⟩ = some (.string t) := ⟨x0, x1, hc0⟩
      go_region_held3 (fun w' => w'.cell? ⟨w.heap.size, 0, none⟩ = some (.int .i64 v) ∧ w'.cell? ⟨w.heap.size, 1, none⟩ = some (.slice (some ⟨b, off, none⟩) n c) ∧ w'.cell? ⟨b, off + k * 3, none⟩ = some (.string t)) (first | with_reducible exact xs | exact ys) ((first
        | (go_at_call 97; refine (specFlowBehind_c v (some ⟨b, off, none⟩) n c l t _ (h.bel (bel_dr hbr)) hz hn).mono ?_; rintro e w5 ⟨DB, dnB, dcB, mB, rfl, hDB, hIB, hb5⟩; have hb5 : Below wr.heap.size wr w5 := (by with_reducible exact bel_nx (bel_dr (bel_refl wr)) hb5); have ys : w5.cell? ⟨w.heap.size, 0, none⟩ = some (.int .i64 v) ∧ w5.cell? ⟨w.heap.size, 1, none⟩ = some (.slice (some ⟨b, off, none⟩) n c) ∧ w5.cell? ⟨b, off + k * 3, none⟩ = some (.string t) := ⟨cell_on hb5 x0, cell_on hb5 x1, cell_on hb5 hc0⟩)
        | (go_at_call 86; refine (l1At_b DB dnB dcB mB s bb _ (SlS.of_own hDB) (isBeh_at hIB s HBB.out)).mono ?_; rintro e w6 ⟨z, rfl, hzz, hw6⟩; subst hw6)))
      have kf5 := kfL.bel hb5
      have hD5 := own_bel hD hb5
      have hbr5 := bel_nx hbr hb5
      have hsz5 := hbr5.size
      have cf5 := kf5.cell
      have hc5 := cell_on hbr5 hc0w
      clear cfL x0 x1 xs ys
      cases bb
      · have hzz : decide (z < 0) = true := hzz
        have hz' : decide (0 ≤ z) = false := by simp at hzz ⊢; omega
        have HN := Lib.hid (aheadL_out HX.out HBB.out)
        rw [hz']
        go_wp2_with fail
        go_roundw
        case rel => exact ⟨k + 1, dn, dc, D, by omega, by go_num, rfl, by rw [HN.out]; exact hD5, by omega, kf5, hbr5⟩
        case measure => simp [intOf]; omega
      · have hzz : decide (z < 0) = false := hzz
        have hz' : decide (0 ≤ z) = true := by simp at hzz ⊢; omega
        have HN := Lib.hid (aheadL_in HX.out HBB.out)
        rw [hz']
        go_wp2_with (at_builtin; refine wpList_append_sl (enc := encS) rfl _ _ 28 rfl w.heap.size 9 i0 (.string ByteArray.empty) 1 16 Try.underlying28 hi0 hz0 hz1 hz2 rfl (by decide) (.slice D dn dc) dn ((((l.take k).filter (fun q => behB v l q.name s)).map Stp.name).map Value.string) rfl (hD5.alloc _) (some ⟨w5.heap.size, 0, none⟩) 1 1 [t] rfl (fun _ => rfl) (Sl.one (Blk.new _ _ _)) one_S (by unfold maxLen; omega) (by omega) (by simp; omega) ?_; intro v9 w9 ho9 hg9 hl9; obtain ⟨A9, c9, rfl⟩ := own_form ho9; rw [flat_encS, ← List.map_append] at ho9)
        have hb9 : Below w.heap.size w w9 := Below.grown (hbr5.alloc hsz5 _) hg9 (by simp; omega) (fun q hq => (hD5.lt q hq).1)
        have kf9 := (kf5.al _).gr hg9 (own_ne_blk hD5 kf5 (by decide)).symm
        go_roundw
        case rel => exact ⟨k + 1, dn + 1, c9, A9, by omega, by go_num, rfl, by rw [HN.out]; exact ho9, by omega, kf9, hb9⟩
        case measure => simp [intOf]; omega
    · have hkn : l.take k = l := List.take_of_length_le (by rw [HL.out]; omega)
      rw [hkn] at hD
      go_wp2_with fail
      go_ret
      exact ⟨D, dn, dc, rfl, hD, hbr⟩

/-- A step that can not be undone may be done when another one is left. -/
noncomputable def openB (v : Int) (l : List Stp) (s : ByteArray) : Bool := decide (l.length > 1 + (aheadL v l s).length)
set_option maxRecDepth 20000 in
set_option maxHeartbeats 2000000 in
theorem l23Open_c (v : Int) (A : Option Addr) (n c : Nat) (l : List Stp) (s : ByteArray) (bb : Bool) (w : World) (h : SlP w A n c l) (hz : SzP l) (hn : n ≤ 1048576) (hbb : openB v l s = bb) : Calls Try.prog 55 #[.agg #[.int .i64 v, .slice A n c], .string s] w fun e w' =>
    e = .returned (.bool bb) ∧ Below w.heap.size w w' := by
  have HB := Lib.hid hbb
  clear hbb
  have HL := Lib.hid h.len
  have hcap := h.cap
  have hmax := h.max
  have kf := Blk.new w 25 #[.int .i64 v, .slice A n c]
  have hW := bel_al (bel_refl w) (.cells #[.int .i64 v, .slice A n c] 25)
  obtain ⟨W, hWW⟩ : ∃ W, W = w.alloc (.cells #[.int .i64 v, .slice A n c] 25) := ⟨_, rfl⟩
  go_enter Try.func55, Try.ntmps55
  go_wp2_with fail
  rw [← hWW] at kf hW ⊢
  clear hWW
  have xs : W.drew.cell? ⟨w.heap.size, 0, none⟩ = some (.int .i64 v) ∧ W.drew.cell? ⟨w.heap.size, 1, none⟩ = some (.slice A n c) := ⟨kf.cell 0, kf.cell 1⟩
  have hal : (aheadL v l s).length ≤ n := by rw [← HL.out]; exact aheadL_len
  have hq : ∀ k : Nat, k = (aheadL v l s).length → IntKind.i64.wrap (1 + (k : Int)) = 1 + (k : Int) ∧ decide ((1 : Int) + (k : Int) < (n : Int)) = bb := fun k hk => by
    refine ⟨by rw [IntKind.wrap_i64]; omega, ?_⟩
    rw [← HB.out, hk]
    unfold openB
    rw [HL.out, Bool.eq_iff_iff]
    simp
    omega
  have HQ := Lib.hid hq
  clear hq
  go_region_held3 (fun w' => w'.cell? ⟨w.heap.size, 0, none⟩ = some (.int .i64 v) ∧ w'.cell? ⟨w.heap.size, 1, none⟩ = some (.slice A n c)) (first | with_reducible exact xs | exact ys) ((go_at_call 84; refine (l23Ahead_c v A n c l s _ (h.bel (bel_dr hW)) hz hn).mono ?_; rintro e w5 ⟨DB, dnB, dcB, rfl, hDB, hb5⟩; have hb5 : Below W.heap.size W w5 := (by with_reducible exact bel_nx (bel_dr (bel_refl W)) hb5); have ys : w5.cell? ⟨w.heap.size, 0, none⟩ = some (.int .i64 v) ∧ w5.cell? ⟨w.heap.size, 1, none⟩ = some (.slice A n c) := ⟨cell_on hb5 (kf.cell 0), cell_on hb5 (kf.cell 1)⟩; obtain ⟨hw1, hd1⟩ := HQ.out dnB (by have hh := own_countS hDB; exact hh)))
  go_wp2_with fail
  go_ret
  exact ⟨rfl, bel_nx hW hb5⟩

theorem safe_open {v : Int} {l : List Stp} {k : Nat} {t : ByteArray} {af : List ByteArray} (hf : flowB v l = true) (hx : l[k]? = some ⟨t, af, false⟩) (ho : openB v l t = true) : safeB v l = false := by
  cases hs : safeB v l
  · rfl
  · obtain ⟨_, H⟩ := safeB_iff.1 hs
    have := (ahead_all hf (List.mem_of_getElem? hx)).2 (fun q hq hne => H _ (List.mem_of_getElem? hx) rfl q hq hne)
    unfold openB at ho
    rw [ho] at this
    cases this
/-- The first k steps are found to be safe. -/
def SafeK (v : Int) (l : List Stp) (k : Nat) : Prop := ∀ (j : Nat) (p : Stp), j < k → l[j]? = some p → p.undo = false → openB v l p.name = false
theorem safe_all {v : Int} {l : List Stp} {n : Nat} (hf : flowB v l = true) (h : SafeK v l n) (hn : l.length ≤ n) : safeB v l = true := by
  refine safeB_iff.2 ⟨hf, fun p hp hu => ?_⟩
  obtain ⟨j, hj, rfl⟩ := List.mem_iff_getElem.1 hp
  exact (ahead_all hf hp).1 (h j _ (by omega) (List.getElem?_eq_getElem hj) hu)
theorem safe_next {v : Int} {l : List Stp} {k : Nat} {p : Stp} (h : SafeK v l k) (hx : l[k]? = some p) (hp : p.undo = false → openB v l p.name = false) : SafeK v l (k + 1) := fun j q hj hq hu => by
  rcases Nat.lt_or_ge j k with r | r
  · exact h j q r hq hu
  · have e : j = k := by omega
    subst e
    rw [hx] at hq
    cases hq
    exact hp hu

set_option maxRecDepth 20000 in
set_option maxHeartbeats 8000000 in
theorem specUndoSafe_c (v : Int) (A : Option Addr) (n c : Nat) (l : List Stp) (w : World) (h : SlP w A n c l) (hz : SzP l) (hn : n ≤ 1048576) : Calls Try.prog 17 #[.agg #[.int .i64 v, .slice A n c]] w fun e w' =>
    e = .returned (.bool (safeB v l)) ∧ Below w.heap.size w w' := by
  have HL := Lib.hid h.len
  have hcap := h.cap
  have hmax := h.max
  have kf := Blk.new w 25 #[.int .i64 v, .slice A n c]
  have hW := bel_al (bel_refl w) (.cells #[.int .i64 v, .slice A n c] 25)
  obtain ⟨bv, hbv⟩ : ∃ x, flowB v l = x := ⟨_, rfl⟩
  have HV := Lib.hid hbv
  clear hbv
  go_enter Try.func17, Try.ntmps17
  go_wp2_with fail
  go_loopw [3] (fun iv wr => ∃ k : Nat, k ≤ n ∧ iv = .int .i64 (k : Int) ∧ Hid (bv = true → SafeK v l k) ∧ Blk wr w.heap.size 25 #[.int .i64 v, .slice A n c] ∧ Below w.heap.size w wr) (fun iv _ => n - (intOf iv).toNat)
  case atStart => exact ⟨0, Nat.zero_le _, rfl, Lib.hid (fun _ j p hj => by omega), kf, hW⟩
  case round =>
    obtain ⟨k, hk, rfl, HK, kfL, hbr⟩ := hrel
    have cfL := kfL.cell
    by_cases hlt : k < n
    · have k0 : (0 : Int) ≤ (k : Int) := by omega
      have k1 : (k : Int) < (n : Int) := by omega
      go_wp2_with fail
      refine (specFlowValid_c v A n c l _ (h.bel hbr) hz hn).mono ?_
      rintro e w1 ⟨rfl, hbq⟩
      have kf1 := kfL.bel hbq
      have hb1 := bel_nx hbr hbq
      have cf1 := kf1.cell
      clear cfL hbq
      rw [HV.out]
      cases bv
      · have HF := Lib.hid (safeB_no0 HV.out)
        go_wp2_with fail
        refine (specFlowValid_c v A n c l _ (h.bel hb1) hz hn).mono ?_
        rintro e w3 ⟨rfl, hb3⟩
        go_wp2_with fail
        go_ret
        exact ⟨ret_bool (by rw [HV.out, HF.out]), bel_nx hb1 hb3⟩
      obtain ⟨b, off, t, B, m, d, af, u, hA, hx, hc0w, _, hc2w, _⟩ := SlP.get h hlt
      subst hA
      have hc0 := cell_on hb1 hc0w
      have hc2 := cell_on hb1 hc2w
      have HX := Lib.hid hx
      clear hx
      have x0 : w1.cell? ⟨w.heap.size, 0, none⟩ = some (.int .i64 v) := kf1.cell 0
      have x1 : w1.cell? ⟨w.heap.size, 1, none⟩ = some (.slice (some ⟨b, off, none⟩) n c) := kf1.cell 1
      cases u
      · obtain ⟨bo, hbo⟩ : ∃ x, openB v l t = x := ⟨_, rfl⟩
        have HO := Lib.hid hbo
        clear hbo
        go_wp2_with fail
        refine wp_region_held_drew (S := (fun w' => w'.cell? ⟨w.heap.size, 0, none⟩ = some (.int .i64 v) ∧ w'.cell? ⟨w.heap.size, 1, none⟩ = some (.slice (some ⟨b, off, none⟩) n c) ∧ w'.cell? ⟨b, off + k * 3, none⟩ = some (.string t) ∧ w'.cell? ⟨b, off + k * 3 + 2, none⟩ = some (.bool false) ∧ Below w.heap.size w w')) (by kernel_rfl) ?_ (fun hHeld => ?_)
        · exact ⟨x0, x1, hc0, hc2, bel_dr hb1⟩
        refine wpAnyH_take (i := 0) (v := ?_) rfl (by kernel_rfl) (by kernel_rfl) (by kernel_rfl) (fun _ _ _ h => h) (Or.inl ⟨by kernel_rfl, ?_⟩) (by assumption) ?_
        rotate_left 1
        · intro w' hSw; (try dsimp only at hSw); go_simp; try with_reducible rfl
        simp only [Act.put, List.getElem_toArray, List.getElem_cons_zero, List.setIfInBounds_toArray, List.set_cons_zero, List.set_cons_succ]
        refine wpAnyH_take (i := 1) (v := ?_) rfl (by kernel_rfl) (by kernel_rfl) (by kernel_rfl) (fun _ _ _ h => h) (Or.inl ⟨by kernel_rfl, ?_⟩) (by assumption) ?_
        rotate_left 1
        · intro w' hSw; (try dsimp only at hSw); go_simp; try with_reducible rfl
        simp only [Act.put, List.getElem_toArray, List.getElem_cons_zero, List.getElem_cons_succ, List.setIfInBounds_toArray, List.set_cons_zero, List.set_cons_succ]
        refine wpAnyH_take (i := 2) (v := ?_) rfl (by kernel_rfl) (by kernel_rfl) (by kernel_rfl) (fun _ _ _ h => h) (Or.inl ⟨by kernel_rfl, ?_⟩) (by assumption) ?_
        rotate_left 1
        · intro w' hSw; (try dsimp only at hSw); go_simp; try with_reducible rfl
        simp only [Act.put, List.getElem_toArray, List.getElem_cons_zero, List.getElem_cons_succ, List.setIfInBounds_toArray, List.set_cons_zero, List.set_cons_succ]
        refine wpAnyH_take (i := 3) (v := ?_) rfl (by kernel_rfl) (by kernel_rfl) (by kernel_rfl) (fun _ _ _ h => h) (Or.inl ⟨by kernel_rfl, ?_⟩) (by assumption) ?_
        rotate_left 1
        · intro w' hSw; (try dsimp only at hSw); go_simp; try with_reducible rfl
        simp only [Act.put, List.getElem_toArray, List.getElem_cons_zero, List.getElem_cons_succ, List.setIfInBounds_toArray, List.set_cons_zero, List.set_cons_succ]
        refine wpAnyH_take (i := 4) (v := ?_) rfl (by kernel_rfl) (by kernel_rfl) (by kernel_rfl) (fun _ _ _ h => h) (Or.inl ⟨by kernel_rfl, ?_⟩) (by assumption) ?_
        rotate_left 1
        · intro w' hSw; (try dsimp only at hSw); go_simp; try with_reducible rfl
        simp only [Act.put, List.getElem_toArray, List.getElem_cons_zero, List.getElem_cons_succ, List.setIfInBounds_toArray, List.set_cons_zero, List.set_cons_succ]
        refine wpAnyH_take (i := 5) (v := ?_) rfl (by kernel_rfl) (by kernel_rfl) (by kernel_rfl) (fun _ _ _ h => h) (Or.inl ⟨by kernel_rfl, ?_⟩) (by assumption) ?_
        rotate_left 1
        · intro w' hSw; (try dsimp only at hSw); go_simp; try with_reducible rfl
        simp only [Act.put, List.getElem_toArray, List.getElem_cons_zero, List.getElem_cons_succ, List.setIfInBounds_toArray, List.set_cons_zero, List.set_cons_succ]
        refine wpAnyH_take (i := 6) (v := ?_) rfl (by kernel_rfl) (by kernel_rfl) (by kernel_rfl) (fun _ _ _ h => h) (Or.inl ⟨by kernel_rfl, ?_⟩) (by assumption) ?_
        rotate_left 1
        · intro w' hSw; (try dsimp only at hSw); go_simp; try with_reducible rfl
        simp only [Act.put, List.getElem_toArray, List.getElem_cons_zero, List.getElem_cons_succ, List.setIfInBounds_toArray, List.set_cons_zero, List.set_cons_succ]
        refine wpAnyH_take (i := 7) (v := ?_) rfl (by kernel_rfl) (by kernel_rfl) (by kernel_rfl) (fun _ _ _ h => h) (Or.inl ⟨by kernel_rfl, ?_⟩) (by assumption) ?_
        rotate_left 1
        · intro w' hSw; (try dsimp only at hSw); go_simp; try with_reducible rfl
        simp only [Act.put, List.getElem_toArray, List.getElem_cons_zero, List.getElem_cons_succ, List.setIfInBounds_toArray, List.set_cons_zero, List.set_cons_succ]
        refine wpAnyH_take (i := 8) (v := ?_) rfl (by kernel_rfl) (by kernel_rfl) (by kernel_rfl) (fun _ _ _ h => h) (Or.inl ⟨by kernel_rfl, ?_⟩) (by assumption) ?_
        rotate_left 1
        · intro w' hSw; (try dsimp only at hSw); go_simp; try with_reducible rfl
        simp only [Act.put, List.getElem_toArray, List.getElem_cons_zero, List.getElem_cons_succ, List.setIfInBounds_toArray, List.set_cons_zero, List.set_cons_succ]
        refine wpAnyH_take (i := 9) (v := ?_) rfl (by kernel_rfl) (by kernel_rfl) (by kernel_rfl) (fun _ _ _ h => h) (Or.inl ⟨by kernel_rfl, ?_⟩) (by assumption) ?_
        rotate_left 1
        · intro w' hSw; (try dsimp only at hSw); go_simp; try with_reducible rfl
        simp only [Act.put, List.getElem_toArray, List.getElem_cons_zero, List.getElem_cons_succ, List.setIfInBounds_toArray, List.set_cons_zero, List.set_cons_succ]
        refine wpAnyH_take (i := 10) (v := ?_) rfl (by kernel_rfl) (by kernel_rfl) (by kernel_rfl) (fun _ _ _ h => h) (Or.inl ⟨by kernel_rfl, ?_⟩) (by assumption) ?_
        rotate_left 1
        · intro w' hSw; (try dsimp only at hSw); go_simp; try with_reducible rfl
        simp only [Act.put, List.getElem_toArray, List.getElem_cons_zero, List.getElem_cons_succ, List.setIfInBounds_toArray, List.set_cons_zero, List.set_cons_succ]
        refine wpAnyH_take (i := 11) (v := ?_) rfl (by kernel_rfl) (by kernel_rfl) (by kernel_rfl) (fun _ _ _ h => h) (Or.inl ⟨by kernel_rfl, ?_⟩) (by assumption) ?_
        rotate_left 1
        · intro w' hSw; (try dsimp only at hSw); go_simp; try with_reducible rfl
        simp only [Act.put, List.getElem_toArray, List.getElem_cons_zero, List.getElem_cons_succ, List.setIfInBounds_toArray, List.set_cons_zero, List.set_cons_succ]
        refine wpAnyH_take (i := 12) (v := ?_) rfl (by kernel_rfl) (by kernel_rfl) (by kernel_rfl) (fun _ _ _ h => h) (Or.inl ⟨by kernel_rfl, ?_⟩) (by assumption) ?_
        rotate_left 1
        · intro w' hSw; (try dsimp only at hSw); go_simp; try with_reducible rfl
        simp only [Act.put, List.getElem_toArray, List.getElem_cons_zero, List.getElem_cons_succ, List.setIfInBounds_toArray, List.set_cons_zero, List.set_cons_succ]
        refine wpAnyH_take (i := 13) (v := ?_) rfl (by kernel_rfl) (by kernel_rfl) (by kernel_rfl) (fun _ _ _ h => h) (Or.inl ⟨by kernel_rfl, ?_⟩) (by assumption) ?_
        rotate_left 1
        · intro w' hSw; (try dsimp only at hSw); go_simp; try with_reducible rfl
        simp only [Act.put, List.getElem_toArray, List.getElem_cons_zero, List.getElem_cons_succ, List.setIfInBounds_toArray, List.set_cons_zero, List.set_cons_succ]
        refine wpAnyH_take (i := 14) (v := ?_) rfl (by kernel_rfl) (by kernel_rfl) (by kernel_rfl) (fun _ _ _ h => h) (Or.inl ⟨by kernel_rfl, ?_⟩) (by assumption) ?_
        rotate_left 1
        · intro w' hSw; (try dsimp only at hSw); go_simp; try with_reducible rfl
        simp only [Act.put, List.getElem_toArray, List.getElem_cons_zero, List.getElem_cons_succ, List.setIfInBounds_toArray, List.set_cons_zero, List.set_cons_succ]
        refine wpAnyH_ready (rs := [15]) (by kernel_rfl) (by simp) ?_
        refine AllReadyH.cons rfl (fun K hK => ?_) AllReadyH.nil
        go_simp
        go_at_call 55
        refine (l23Open_c v (some ⟨b, off, none⟩) n c l t bo _ (h.bel (by go_split_ands; assumption)) hz hn HO.out).mono ?_
        rintro e w5 ⟨rfl, hb5⟩
        refine hK.out _ _ ?_ (fun hHeld => ?_)
        · (go_split_ands; exact ⟨cell_on hb5 (by assumption), cell_on hb5 (by assumption), cell_on hb5 (by assumption), cell_on hb5 (by assumption), bel_nx (by assumption) hb5⟩)
        clear hK K
        try simp only [Act.put, List.getElem_toArray, List.getElem_cons_zero, List.getElem_cons_succ, List.setIfInBounds_toArray, List.set_cons_zero, List.set_cons_succ]
        refine wpAnyH_take (i := 16) (v := ?_) rfl (by kernel_rfl) (by kernel_rfl) (by kernel_rfl) (fun _ _ _ h => h) (Or.inl ⟨by kernel_rfl, ?_⟩) (by assumption) ?_
        rotate_left 1
        · intro w' hSw; (try dsimp only at hSw); go_simp; try with_reducible rfl
        simp only [Act.put, List.getElem_toArray, List.getElem_cons_zero, List.getElem_cons_succ, List.setIfInBounds_toArray, List.set_cons_zero, List.set_cons_succ]
        refine wpAnyH_done (by kernel_rfl) ?_ _
        go_split_ands
        have hB : Below w.heap.size w w5 := by assumption
        have kf5 := kf1.bel (bel_nx (bel_dr (bel_refl w1)) hb5)
        cases bo
        · have HN := Lib.hid (fun e => safe_next (HK.out e) HX.out (fun _ => HO.out))
          go_wp2_with fail
          go_roundw
          case rel => exact ⟨k + 1, by omega, by go_num, HN, kf5, hB⟩
          case measure => simp [intOf]; omega
        · have HF := Lib.hid (safe_open HV.out HX.out HO.out)
          go_wp2_with fail
          go_ret
          exact ⟨ret_bool HF.out.symm, hB⟩
      · have HN := Lib.hid (fun e => safe_next (HK.out e) HX.out (fun hh => by cases hh))
        go_wp2_with fail
        refine wp_region_held_drew (S := (fun w' => w'.cell? ⟨w.heap.size, 0, none⟩ = some (.int .i64 v) ∧ w'.cell? ⟨w.heap.size, 1, none⟩ = some (.slice (some ⟨b, off, none⟩) n c) ∧ w'.cell? ⟨b, off + k * 3, none⟩ = some (.string t) ∧ w'.cell? ⟨b, off + k * 3 + 2, none⟩ = some (.bool true) ∧ Below w.heap.size w w')) (by kernel_rfl) ?_ (fun hHeld => ?_)
        · exact ⟨x0, x1, hc0, hc2, bel_dr hb1⟩
        refine wpAnyH_take (i := 0) (v := ?_) rfl (by kernel_rfl) (by kernel_rfl) (by kernel_rfl) (fun _ _ _ h => h) (Or.inl ⟨by kernel_rfl, ?_⟩) (by assumption) ?_
        rotate_left 1
        · intro w' hSw; (try dsimp only at hSw); go_simp; try with_reducible rfl
        simp only [Act.put, List.getElem_toArray, List.getElem_cons_zero, List.setIfInBounds_toArray, List.set_cons_zero, List.set_cons_succ]
        refine wpAnyH_take (i := 1) (v := ?_) rfl (by kernel_rfl) (by kernel_rfl) (by kernel_rfl) (fun _ _ _ h => h) (Or.inl ⟨by kernel_rfl, ?_⟩) (by assumption) ?_
        rotate_left 1
        · intro w' hSw; (try dsimp only at hSw); go_simp; try with_reducible rfl
        simp only [Act.put, List.getElem_toArray, List.getElem_cons_zero, List.getElem_cons_succ, List.setIfInBounds_toArray, List.set_cons_zero, List.set_cons_succ]
        refine wpAnyH_take (i := 2) (v := ?_) rfl (by kernel_rfl) (by kernel_rfl) (by kernel_rfl) (fun _ _ _ h => h) (Or.inl ⟨by kernel_rfl, ?_⟩) (by assumption) ?_
        rotate_left 1
        · intro w' hSw; (try dsimp only at hSw); go_simp; try with_reducible rfl
        simp only [Act.put, List.getElem_toArray, List.getElem_cons_zero, List.getElem_cons_succ, List.setIfInBounds_toArray, List.set_cons_zero, List.set_cons_succ]
        refine wpAnyH_take (i := 3) (v := ?_) rfl (by kernel_rfl) (by kernel_rfl) (by kernel_rfl) (fun _ _ _ h => h) (Or.inl ⟨by kernel_rfl, ?_⟩) (by assumption) ?_
        rotate_left 1
        · intro w' hSw; (try dsimp only at hSw); go_simp; try with_reducible rfl
        simp only [Act.put, List.getElem_toArray, List.getElem_cons_zero, List.getElem_cons_succ, List.setIfInBounds_toArray, List.set_cons_zero, List.set_cons_succ]
        refine wpAnyH_take (i := 4) (v := ?_) rfl (by kernel_rfl) (by kernel_rfl) (by kernel_rfl) (fun _ _ _ h => h) (Or.inl ⟨by kernel_rfl, ?_⟩) (by assumption) ?_
        rotate_left 1
        · intro w' hSw; (try dsimp only at hSw); go_simp; try with_reducible rfl
        simp only [Act.put, List.getElem_toArray, List.getElem_cons_zero, List.getElem_cons_succ, List.setIfInBounds_toArray, List.set_cons_zero, List.set_cons_succ]
        refine wpAnyH_take (i := 5) (v := ?_) rfl (by kernel_rfl) (by kernel_rfl) (by kernel_rfl) (fun _ _ _ h => h) (Or.inl ⟨by kernel_rfl, ?_⟩) (by assumption) ?_
        rotate_left 1
        · intro w' hSw; (try dsimp only at hSw); go_simp; try with_reducible rfl
        simp only [Act.put, List.getElem_toArray, List.getElem_cons_zero, List.getElem_cons_succ, List.setIfInBounds_toArray, List.set_cons_zero, List.set_cons_succ]
        refine wpAnyH_take (i := 6) (v := ?_) rfl (by kernel_rfl) (by kernel_rfl) (by kernel_rfl) (fun _ _ _ h => h) (Or.inl ⟨by kernel_rfl, ?_⟩) (by assumption) ?_
        rotate_left 1
        · intro w' hSw; (try dsimp only at hSw); go_simp; try with_reducible rfl
        simp only [Act.put, List.getElem_toArray, List.getElem_cons_zero, List.getElem_cons_succ, List.setIfInBounds_toArray, List.set_cons_zero, List.set_cons_succ]
        refine wpAnyH_take (i := 7) (v := ?_) rfl (by kernel_rfl) (by kernel_rfl) (by kernel_rfl) (fun _ _ _ h => h) (Or.inl ⟨by kernel_rfl, ?_⟩) (by assumption) ?_
        rotate_left 1
        · intro w' hSw; (try dsimp only at hSw); go_simp; try with_reducible rfl
        simp only [Act.put, List.getElem_toArray, List.getElem_cons_zero, List.getElem_cons_succ, List.setIfInBounds_toArray, List.set_cons_zero, List.set_cons_succ]
        refine wpAnyH_take (i := 8) (v := undef) rfl (by kernel_rfl) (by kernel_rfl) (by kernel_rfl) (fun _ _ _ h => h) (Or.inr ⟨by kernel_rfl, rfl⟩) (by assumption) ?_
        simp only [Act.put, List.getElem_toArray, List.getElem_cons_zero, List.getElem_cons_succ, List.setIfInBounds_toArray, List.set_cons_zero, List.set_cons_succ]
        refine wpAnyH_take (i := 9) (v := undef) rfl (by kernel_rfl) (by kernel_rfl) (by kernel_rfl) (fun _ _ _ h => h) (Or.inr ⟨by kernel_rfl, rfl⟩) (by assumption) ?_
        simp only [Act.put, List.getElem_toArray, List.getElem_cons_zero, List.getElem_cons_succ, List.setIfInBounds_toArray, List.set_cons_zero, List.set_cons_succ]
        refine wpAnyH_take (i := 10) (v := undef) rfl (by kernel_rfl) (by kernel_rfl) (by kernel_rfl) (fun _ _ _ h => h) (Or.inr ⟨by kernel_rfl, rfl⟩) (by assumption) ?_
        simp only [Act.put, List.getElem_toArray, List.getElem_cons_zero, List.getElem_cons_succ, List.setIfInBounds_toArray, List.set_cons_zero, List.set_cons_succ]
        refine wpAnyH_take (i := 11) (v := undef) rfl (by kernel_rfl) (by kernel_rfl) (by kernel_rfl) (fun _ _ _ h => h) (Or.inr ⟨by kernel_rfl, rfl⟩) (by assumption) ?_
        simp only [Act.put, List.getElem_toArray, List.getElem_cons_zero, List.getElem_cons_succ, List.setIfInBounds_toArray, List.set_cons_zero, List.set_cons_succ]
        refine wpAnyH_take (i := 12) (v := undef) rfl (by kernel_rfl) (by kernel_rfl) (by kernel_rfl) (fun _ _ _ h => h) (Or.inr ⟨by kernel_rfl, rfl⟩) (by assumption) ?_
        simp only [Act.put, List.getElem_toArray, List.getElem_cons_zero, List.getElem_cons_succ, List.setIfInBounds_toArray, List.set_cons_zero, List.set_cons_succ]
        refine wpAnyH_take (i := 13) (v := undef) rfl (by kernel_rfl) (by kernel_rfl) (by kernel_rfl) (fun _ _ _ h => h) (Or.inr ⟨by kernel_rfl, rfl⟩) (by assumption) ?_
        simp only [Act.put, List.getElem_toArray, List.getElem_cons_zero, List.getElem_cons_succ, List.setIfInBounds_toArray, List.set_cons_zero, List.set_cons_succ]
        refine wpAnyH_take (i := 14) (v := undef) rfl (by kernel_rfl) (by kernel_rfl) (by kernel_rfl) (fun _ _ _ h => h) (Or.inr ⟨by kernel_rfl, rfl⟩) (by assumption) ?_
        simp only [Act.put, List.getElem_toArray, List.getElem_cons_zero, List.getElem_cons_succ, List.setIfInBounds_toArray, List.set_cons_zero, List.set_cons_succ]
        refine wpAnyH_take (i := 15) (v := undef) rfl (by kernel_rfl) (by kernel_rfl) (by kernel_rfl) (fun _ _ _ h => h) (Or.inr ⟨by kernel_rfl, rfl⟩) (by assumption) ?_
        simp only [Act.put, List.getElem_toArray, List.getElem_cons_zero, List.getElem_cons_succ, List.setIfInBounds_toArray, List.set_cons_zero, List.set_cons_succ]
        refine wpAnyH_take (i := 16) (v := ?_) rfl (by kernel_rfl) (by kernel_rfl) (by kernel_rfl) (fun _ _ _ h => h) (Or.inl ⟨by kernel_rfl, ?_⟩) (by assumption) ?_
        rotate_left 1
        · intro w' hSw; (try dsimp only at hSw); go_simp; try with_reducible rfl
        simp only [Act.put, List.getElem_toArray, List.getElem_cons_zero, List.getElem_cons_succ, List.setIfInBounds_toArray, List.set_cons_zero, List.set_cons_succ]
        refine wpAnyH_done (by kernel_rfl) ?_ _
        go_split_ands
        go_wp2_with fail
        go_roundw
        case rel => exact ⟨k + 1, by omega, by go_num, HN, kf1, bel_dr hb1⟩
        case measure => simp [intOf]; omega
    · have HF : Hid (safeB v l = bv) := Lib.hid (by
        cases hq : bv
        · exact safeB_no0 (HV.out.trans hq)
        · exact safe_all (HV.out.trans hq) (HK.out hq) (by rw [HL.out]; omega))
      go_wp2_with fail
      refine (specFlowValid_c v A n c l _ (h.bel hbr) hz hn).mono ?_
      rintro e w3 ⟨rfl, hb3⟩
      go_wp2_with fail
      go_ret
      exact ⟨ret_bool (by rw [HV.out, HF.out]), bel_nx hbr hb3⟩

end Go.Proofs.Ytdchfiiaollheaa
