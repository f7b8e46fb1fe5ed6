/- A flow is valid: the walk over the program's FlowValid. -/
import Derived.Test.YtdchfiiaollheaaFlows2
import Derived.Deep.Cut
import Derived.Deep.CutRange
import Derived.Deep.CutBlock
import Derived.Deep.DeepCutAuto
import Derived.Deep.RegionHeld3
namespace Go.Proofs.Ytdchfiiaollheaa
open Go.RowKit

def stepsB (l : List Stp) : Bool := l.all (fun p => stepB p.name p.after && haveB (namesP l) p.after)
/-- A flow is valid. -/
def flowB (v : Int) (l : List Stp) : Bool := decide (1 ≤ v ∧ v ≤ 99) && decide (1 ≤ l.length ∧ l.length ≤ 8) && ascB (namesP l) && stepsB l && decide ((orderP l).length = l.length)
theorem flowB_iff {v : Int} {l : List Stp} : flowB v l = true ↔ (1 ≤ v ∧ v ≤ 99) ∧ (1 ≤ l.length ∧ l.length ≤ 8) ∧ ascB (namesP l) = true ∧ stepsB l = true ∧ (orderP l).length = l.length := by
  simp only [flowB, Bool.and_eq_true, decide_eq_true_iff, and_assoc]
theorem flowB_no {v : Int} {l : List Stp} (h : ¬ ((1 ≤ v ∧ v ≤ 99) ∧ (1 ≤ l.length ∧ l.length ≤ 8) ∧ ascB (namesP l) = true ∧ stepsB l = true ∧ (orderP l).length = l.length)) : flowB v l = false := by
  cases hf : flowB v l
  · rfl
  · exact absurd (flowB_iff.1 hf) h
theorem stepsB_iff {l : List Stp} : stepsB l = true ↔ ∀ p ∈ l, stepB p.name p.after = true ∧ haveB (namesP l) p.after = true := by
  simp only [stepsB, List.all_eq_true, Bool.and_eq_true]
theorem stepsB_no1 {l : List Stp} {k : Nat} {nm : ByteArray} {af : List ByteArray} {u : Bool} (h : l[k]? = some ⟨nm, af, u⟩) (hs : stepB nm af = false) : stepsB l = false := by
  cases hf : stepsB l
  · rfl
  · have := (stepsB_iff.1 hf _ (List.mem_of_getElem? h)).1
    rw [hs] at this; cases this
theorem stepsB_no2 {l : List Stp} {k : Nat} {nm : ByteArray} {af : List ByteArray} {u : Bool} (h : l[k]? = some ⟨nm, af, u⟩) (hs : haveB (namesP l) af = false) : stepsB l = false := by
  cases hf : stepsB l
  · rfl
  · have := (stepsB_iff.1 hf _ (List.mem_of_getElem? h)).2
    rw [hs] at this; cases this
theorem stepsB_yes {l : List Stp} {n : Nat} (hn : l.length = n) (H : ∀ j (p : Stp), j < n → l[j]? = some p → stepB p.name p.after = true ∧ haveB (namesP l) p.after = true) : stepsB l = true := by
  rw [stepsB_iff]
  intro p hp
  obtain ⟨j, hj, rfl⟩ := List.mem_iff_getElem.1 hp
  exact H j _ (by omega) (List.getElem?_eq_getElem hj)
theorem allP_next {P : Stp → Prop} {l : List Stp} {k : Nat} {t : Stp} (hk : l[k]? = some t) (ht : P t) (H : ∀ j (r : Stp), j < k → l[j]? = some r → P r) : ∀ j (r : Stp), j < k + 1 → l[j]? = some r → P r := fun j r hj hr => by
  rcases Nat.lt_or_ge j k with q | q
  · exact H j r q hr
  · have e : j = k := by omega
    subst e
    rw [hk] at hr
    cases hr
    exact ht
theorem implStepValid_b (nm : ByteArray) (B : Option Addr) (m d : Nat) (u : Bool) (af : List ByteArray) (b : Bool) (w : World) (haf : SlS w B m d af) (hs : nm.size ≤ 9223372036854775807) (hz : SzL af) (hb : stepB nm af = b) : Calls Try.prog 82 #[.agg #[.string nm, .slice B m d, .bool u]] w fun e w' =>
    e = .returned (.bool b) ∧ Below w.heap.size w w' := by
  rw [← hb]; exact implStepValid_c nm B m d u af w haf hs hz
theorem szN {l : List Stp} (hz : SzP l) : SzL (namesP l) := fun s hs => by
  obtain ⟨p, hp, rfl⟩ := List.mem_map.1 hs
  exact (hz p hp).1

set_option maxRecDepth 20000 in
set_option maxHeartbeats 8000000 in
theorem implFlowValid_c (v : Int) (A : Option Addr) (n c : Nat) (l : List Stp) (w : World) (h : SlP w A n c l) (hz : SzP l) : Calls Try.prog 52 #[.agg #[.int .i64 v, .slice A n c]] w fun e w' =>
    e = .returned (.bool (flowB v l)) ∧ Below w.heap.size w w' := by
  have HL := Lib.hid h.len
  have hcap := h.cap
  have hmax := h.max
  have hn0 := h.len
  have kf := Blk.new w 25 #[.int .i64 v, .slice A n c]
  have hW := bel_al (bel_refl w) (.cells #[.int .i64 v, .slice A n c] 25)
  have cf := kf.cell
  by_cases h1 : v < 1
  · have HF := Lib.hid (flowB_no (v := v) (l := l) (fun hh => by omega))
    have dd : decide (v < 1) = true := decide_eq_true (by omega)
    clear h1 hn0
    go_enter Try.func52, Try.ntmps52
    go_wp2_with fail
    go_ret
    exact ⟨ret_bool HF.out.symm, hW⟩
  have dh1 : decide (v < 1) = false := decide_eq_false (by omega)
  have v1 : 1 ≤ v := by omega
  by_cases h11 : 99 < v
  · have HF := Lib.hid (flowB_no (v := v) (l := l) (fun hh => by omega))
    have dd : decide (99 < v) = true := decide_eq_true (by omega)
    clear h11 hn0
    go_enter Try.func52, Try.ntmps52
    go_wp2_with fail
    go_ret
    exact ⟨ret_bool HF.out.symm, hW⟩
  have dh11 : decide (99 < v) = false := decide_eq_false (by omega)
  have v9 : v ≤ 99 := by omega
  by_cases h21 : n < 1
  · have HF := Lib.hid (flowB_no (v := v) (l := l) (fun hh => by omega))
    have dd : decide ((n : Int) < 1) = true := decide_eq_true (by omega)
    clear h21 hn0
    go_enter Try.func52, Try.ntmps52
    go_wp2_with fail
    go_ret
    exact ⟨ret_bool HF.out.symm, hW⟩
  have dh21 : decide ((n : Int) < 1) = false := decide_eq_false (by omega)
  have n1 : 1 ≤ n := by omega
  have n1i : (1 : Int) ≤ (n : Int) := by omega
  by_cases h32 : 8 < n
  · have HF := Lib.hid (flowB_no (v := v) (l := l) (fun hh => by omega))
    have dd : decide (8 < (n : Int)) = true := decide_eq_true (by omega)
    clear h32 hn0
    go_enter Try.func52, Try.ntmps52
    go_wp2_with fail
    go_ret
    exact ⟨ret_bool HF.out.symm, hW⟩
  have dh32 : decide (8 < (n : Int)) = false := decide_eq_false (by omega)
  have n8 : n ≤ 8 := by omega
  have n8i : (n : Int) ≤ 8 := by omega
  clear hn0
  go_enter Try.func52, Try.ntmps52
  go_wp2_with fail
  refine (flowNames_c v A n c l _ (h.al _) (by omega)).mono ?_
  rintro e w1 ⟨D, dn, dc, rfl, hD, hb1⟩
  have hDs := SlS.of_own hD
  have kf := kf.bel hb1
  have hW := bel_nx hW hb1
  clear hD hb1 cf
  have cf := kf.cell
  obtain ⟨b1, hb1⟩ : ∃ x, ascB (namesP l) = x := ⟨_, rfl⟩
  have HB1 := Lib.hid hb1
  clear hb1
  go_wp2_with fail
  refine (namesAscend_b D dn dc (namesP l) b1 _ hDs (szN hz) HB1.out).mono ?_
  rintro e w2 ⟨rfl, rfl⟩
  cases b1
  · have HF := Lib.hid (flowB_no (v := v) (l := l) (fun hh => by rw [HB1.out] at hh; exact absurd hh.2.2.1 (by simp)))
    go_wp2_with fail
    go_ret
    exact ⟨ret_bool HF.out.symm, hW⟩
  clear hDs
  go_wp2_with fail
  go_loopw [34] (fun iv wr => ∃ k : Nat, k ≤ n ∧ iv = .int .i64 (k : Int) ∧ Hid (∀ j (p : Stp), j < k → l[j]? = some p → stepB p.name p.after = true ∧ haveB (namesP l) p.after = true) ∧ Blk wr w.heap.size 25 #[.int .i64 v, .slice A n c] ∧ Below w.heap.size w wr) (fun iv _ => n - (intOf iv).toNat)
  case atStart => exact ⟨0, Nat.zero_le _, rfl, Lib.hid (fun j p hj => by omega), kf, hW⟩
  case round =>
    obtain ⟨k, hk, rfl, H, kf, hbr⟩ := hrel
    have hsz := hbr.size
    have hkl := kf.lt
    by_cases hlt : k < n
    · obtain ⟨b, off, t, B, m, d, af, u, rfl, hx, hc0, hc1, hc2, haf⟩ := SlP.get (h.bel hbr) hlt
      obtain ⟨hts, hta⟩ := szP_at hz hx
      have HX := Lib.hid hx
      clear hx
      have k0 : (0 : Int) ≤ (k : Int) := by omega
      have k1 : (k : Int) < (n : Int) := by omega
      have kb := Blk.new wr 30 #[.string t, .slice B m d, .bool u]
      have kf1 := kf.al (.cells #[.string t, .slice B m d, .bool u] 30)
      have hbr1 := bel_al hbr (.cells #[.string t, .slice B m d, .bool u] 30)
      have haf1 := haf.al (.cells #[.string t, .slice B m d, .bool u] 30)
      obtain ⟨b2, hb2⟩ : ∃ x, stepB t af = x := ⟨_, rfl⟩
      have HB2 := Lib.hid hb2
      clear hb2
      obtain ⟨b3, hb3⟩ : ∃ x, haveB (namesP l) af = x := ⟨_, rfl⟩
      have HB3 := Lib.hid hb3
      clear hb3
      have n8n : n ≤ 1048576 := by omega
      go_wp2_with fail
      cases b2
      · have HF := Lib.hid (flowB_no (v := v) (l := l) (fun hh => by rw [stepsB_no1 HX.out HB2.out] at hh; exact absurd hh.2.2.2.1 (by simp)))
        refine wp_region_held_drew (S := (fun w' => w'.cell? ⟨wr.heap.size, 0, none⟩ = some (.string t) ∧ w'.cell? ⟨wr.heap.size, 1, none⟩ = some (.slice B m d) ∧ w'.cell? ⟨wr.heap.size, 2, none⟩ = some (.bool u) ∧ w'.cell? ⟨w.heap.size, 0, none⟩ = some (.int .i64 v) ∧ w'.cell? ⟨w.heap.size, 1, none⟩ = some (.slice (some ⟨b, off, none⟩) n c) ∧ Blk w' w.heap.size 25 #[.int .i64 v, .slice (some ⟨b, off, none⟩) n c] ∧ SlS w' B m d af ∧ Below w.heap.size w w')) (by kernel_rfl) ?_ (fun hHeld => ?_)
        · exact ⟨kb.cell 0, kb.cell 1, kb.cell 2, kf1.cell 0, kf1.cell 1, kf1.dr, haf1.dr, bel_dr hbr1⟩
        refine wpAnyH_take (i := 0) (v := ?_) rfl (by kernel_rfl) (by kernel_rfl) (by kernel_rfl) (fun _ _ _ h => h) (Or.inl ⟨by kernel_rfl, ?_⟩) (by assumption) ?_
        rotate_left 1
        · intro w' hSw; (try dsimp only at hSw); go_simp; try with_reducible rfl
        simp only [Act.put, List.getElem_toArray, List.getElem_cons_zero, List.setIfInBounds_toArray, List.set_cons_zero, List.set_cons_succ]
        refine wpAnyH_ready (rs := [1]) (by kernel_rfl) (by simp) ?_
        refine AllReadyH.cons rfl (fun K hK => ?_) AllReadyH.nil
        go_simp
        go_at_call 82
        refine (implStepValid_b t B m d u af false _ (by go_split_ands; assumption) hts hta HB2.out).mono ?_
        rintro e w5 ⟨rfl, hb5⟩
        refine hK.out _ _ ?_ (fun hHeld => ?_)
        · (go_split_ands; exact ⟨cell_on hb5 (by assumption), cell_on hb5 (by assumption), cell_on hb5 (by assumption), cell_on hb5 (by assumption), cell_on hb5 (by assumption), Blk.bel (by assumption) hb5, Sl.bel (by assumption) hb5, bel_nx (by assumption) hb5⟩)
        clear hK K
        try simp only [Act.put, List.getElem_toArray, List.getElem_cons_zero, List.getElem_cons_succ, List.setIfInBounds_toArray, List.set_cons_zero, List.set_cons_succ]
        refine wpAnyH_take (i := 2) (v := ?_) rfl (by kernel_rfl) (by kernel_rfl) (by kernel_rfl) (fun _ _ _ h => h) (Or.inl ⟨by kernel_rfl, ?_⟩) (by assumption) ?_
        rotate_left 1
        · intro w' hSw; (try dsimp only at hSw); go_simp; try with_reducible rfl
        simp only [Act.put, List.getElem_toArray, List.getElem_cons_zero, List.getElem_cons_succ, List.setIfInBounds_toArray, List.set_cons_zero, List.set_cons_succ]
        refine wpAnyH_take (i := 3) (v := ?_) rfl (by kernel_rfl) (by kernel_rfl) (by kernel_rfl) (fun _ _ _ h => h) (Or.inl ⟨by kernel_rfl, ?_⟩) (by assumption) ?_
        rotate_left 1
        · intro w' hSw; (try dsimp only at hSw); go_simp; try with_reducible rfl
        simp only [Act.put, List.getElem_toArray, List.getElem_cons_zero, List.getElem_cons_succ, List.setIfInBounds_toArray, List.set_cons_zero, List.set_cons_succ]
        refine wpAnyH_take (i := 4) (v := undef) rfl (by kernel_rfl) (by kernel_rfl) (by kernel_rfl) (fun _ _ _ h => h) (Or.inr ⟨by kernel_rfl, rfl⟩) (by assumption) ?_
        simp only [Act.put, List.getElem_toArray, List.getElem_cons_zero, List.getElem_cons_succ, List.setIfInBounds_toArray, List.set_cons_zero, List.set_cons_succ]
        refine wpAnyH_take (i := 5) (v := undef) rfl (by kernel_rfl) (by kernel_rfl) (by kernel_rfl) (fun _ _ _ h => h) (Or.inr ⟨by kernel_rfl, rfl⟩) (by assumption) ?_
        simp only [Act.put, List.getElem_toArray, List.getElem_cons_zero, List.getElem_cons_succ, List.setIfInBounds_toArray, List.set_cons_zero, List.set_cons_succ]
        refine wpAnyH_take (i := 6) (v := undef) rfl (by kernel_rfl) (by kernel_rfl) (by kernel_rfl) (fun _ _ _ h => h) (Or.inr ⟨by kernel_rfl, rfl⟩) (by assumption) ?_
        simp only [Act.put, List.getElem_toArray, List.getElem_cons_zero, List.getElem_cons_succ, List.setIfInBounds_toArray, List.set_cons_zero, List.set_cons_succ]
        refine wpAnyH_take (i := 7) (v := undef) rfl (by kernel_rfl) (by kernel_rfl) (by kernel_rfl) (fun _ _ _ h => h) (Or.inr ⟨by kernel_rfl, rfl⟩) (by assumption) ?_
        simp only [Act.put, List.getElem_toArray, List.getElem_cons_zero, List.getElem_cons_succ, List.setIfInBounds_toArray, List.set_cons_zero, List.set_cons_succ]
        refine wpAnyH_take (i := 8) (v := undef) rfl (by kernel_rfl) (by kernel_rfl) (by kernel_rfl) (fun _ _ _ h => h) (Or.inr ⟨by kernel_rfl, rfl⟩) (by assumption) ?_
        simp only [Act.put, List.getElem_toArray, List.getElem_cons_zero, List.getElem_cons_succ, List.setIfInBounds_toArray, List.set_cons_zero, List.set_cons_succ]
        refine wpAnyH_take (i := 9) (v := undef) rfl (by kernel_rfl) (by kernel_rfl) (by kernel_rfl) (fun _ _ _ h => h) (Or.inr ⟨by kernel_rfl, rfl⟩) (by assumption) ?_
        simp only [Act.put, List.getElem_toArray, List.getElem_cons_zero, List.getElem_cons_succ, List.setIfInBounds_toArray, List.set_cons_zero, List.set_cons_succ]
        refine wpAnyH_take (i := 10) (v := ?_) rfl (by kernel_rfl) (by kernel_rfl) (by kernel_rfl) (fun _ _ _ h => h) (Or.inl ⟨by kernel_rfl, ?_⟩) (by assumption) ?_
        rotate_left 1
        · intro w' hSw; (try dsimp only at hSw); go_simp; try with_reducible rfl
        simp only [Act.put, List.getElem_toArray, List.getElem_cons_zero, List.getElem_cons_succ, List.setIfInBounds_toArray, List.set_cons_zero, List.set_cons_succ]
        refine wpAnyH_done (by kernel_rfl) ?_ _
        go_split_ands
        have hB : Below w.heap.size w w5 := by assumption
        go_wp2_with fail
        go_ret
        exact ⟨ret_bool HF.out.symm, hB⟩
      · have hkk : True := trivial
        refine wp_region_held_drew (S := (fun w' => w'.cell? ⟨wr.heap.size, 0, none⟩ = some (.string t) ∧ w'.cell? ⟨wr.heap.size, 1, none⟩ = some (.slice B m d) ∧ w'.cell? ⟨wr.heap.size, 2, none⟩ = some (.bool u) ∧ w'.cell? ⟨w.heap.size, 0, none⟩ = some (.int .i64 v) ∧ w'.cell? ⟨w.heap.size, 1, none⟩ = some (.slice (some ⟨b, off, none⟩) n c) ∧ Blk w' w.heap.size 25 #[.int .i64 v, .slice (some ⟨b, off, none⟩) n c] ∧ SlS w' B m d af ∧ Below w.heap.size w w')) (by kernel_rfl) ?_ (fun hHeld => ?_)
        · exact ⟨kb.cell 0, kb.cell 1, kb.cell 2, kf1.cell 0, kf1.cell 1, kf1.dr, haf1.dr, bel_dr hbr1⟩
        refine wpAnyH_take (i := 0) (v := ?_) rfl (by kernel_rfl) (by kernel_rfl) (by kernel_rfl) (fun _ _ _ h => h) (Or.inl ⟨by kernel_rfl, ?_⟩) (by assumption) ?_
        rotate_left 1
        · intro w' hSw; (try dsimp only at hSw); go_simp; try with_reducible rfl
        simp only [Act.put, List.getElem_toArray, List.getElem_cons_zero, List.setIfInBounds_toArray, List.set_cons_zero, List.set_cons_succ]
        refine wpAnyH_ready (rs := [1]) (by kernel_rfl) (by simp) ?_
        refine AllReadyH.cons rfl (fun K hK => ?_) AllReadyH.nil
        go_simp
        go_at_call 82
        refine (implStepValid_b t B m d u af true _ (by go_split_ands; assumption) hts hta HB2.out).mono ?_
        rintro e w5 ⟨rfl, hb5⟩
        refine hK.out _ _ ?_ (fun hHeld => ?_)
        · (go_split_ands; exact ⟨cell_on hb5 (by assumption), cell_on hb5 (by assumption), cell_on hb5 (by assumption), cell_on hb5 (by assumption), cell_on hb5 (by assumption), Blk.bel (by assumption) hb5, Sl.bel (by assumption) hb5, bel_nx (by assumption) hb5⟩)
        clear hK K
        try simp only [Act.put, List.getElem_toArray, List.getElem_cons_zero, List.getElem_cons_succ, List.setIfInBounds_toArray, List.set_cons_zero, List.set_cons_succ]
        refine wpAnyH_take (i := 2) (v := ?_) rfl (by kernel_rfl) (by kernel_rfl) (by kernel_rfl) (fun _ _ _ h => h) (Or.inl ⟨by kernel_rfl, ?_⟩) (by assumption) ?_
        rotate_left 1
        · intro w' hSw; (try dsimp only at hSw); go_simp; try with_reducible rfl
        simp only [Act.put, List.getElem_toArray, List.getElem_cons_zero, List.getElem_cons_succ, List.setIfInBounds_toArray, List.set_cons_zero, List.set_cons_succ]
        refine wpAnyH_take (i := 3) (v := ?_) rfl (by kernel_rfl) (by kernel_rfl) (by kernel_rfl) (fun _ _ _ h => h) (Or.inl ⟨by kernel_rfl, ?_⟩) (by assumption) ?_
        rotate_left 1
        · intro w' hSw; (try dsimp only at hSw); go_simp; try with_reducible rfl
        simp only [Act.put, List.getElem_toArray, List.getElem_cons_zero, List.getElem_cons_succ, List.setIfInBounds_toArray, List.set_cons_zero, List.set_cons_succ]
        refine wpAnyH_take (i := 4) (v := ?_) rfl (by kernel_rfl) (by kernel_rfl) (by kernel_rfl) (fun _ _ _ h => h) (Or.inl ⟨by kernel_rfl, ?_⟩) (by assumption) ?_
        rotate_left 1
        · intro w' hSw; (try dsimp only at hSw); go_simp; try with_reducible rfl
        simp only [Act.put, List.getElem_toArray, List.getElem_cons_zero, List.getElem_cons_succ, List.setIfInBounds_toArray, List.set_cons_zero, List.set_cons_succ]
        refine wpAnyH_take (i := 6) (v := ?_) rfl (by kernel_rfl) (by kernel_rfl) (by kernel_rfl) (fun _ _ _ h => h) (Or.inl ⟨by kernel_rfl, ?_⟩) (by assumption) ?_
        rotate_left 1
        · intro w' hSw; (try dsimp only at hSw); go_simp; try with_reducible rfl
        simp only [Act.put, List.getElem_toArray, List.getElem_cons_zero, List.getElem_cons_succ, List.setIfInBounds_toArray, List.set_cons_zero, List.set_cons_succ]
        refine wpAnyH_take (i := 7) (v := ?_) rfl (by kernel_rfl) (by kernel_rfl) (by kernel_rfl) (fun _ _ _ h => h) (Or.inl ⟨by kernel_rfl, ?_⟩) (by assumption) ?_
        rotate_left 1
        · intro w' hSw; (try dsimp only at hSw); go_simp; try with_reducible rfl
        simp only [Act.put, List.getElem_toArray, List.getElem_cons_zero, List.getElem_cons_succ, List.setIfInBounds_toArray, List.set_cons_zero, List.set_cons_succ]
        refine wpAnyH_ready (rs := [5]) (by kernel_rfl) (by simp) ?_
        refine AllReadyH.cons rfl (fun K hK => ?_) AllReadyH.nil
        go_simp
        go_at_call 81
        refine (flowNames_c v (some ⟨b, off, none⟩) n c l _ (h.bel (by go_split_ands; assumption)) n8n).mono ?_
        rintro e w6 ⟨E, en, ec, rfl, hE, hb6⟩
        have hEs := SlS.of_own hE
        refine hK.out _ _ ?_ (fun hHeld => ?_)
        · (go_split_ands; exact ⟨cell_on hb6 (by assumption), cell_on hb6 (by assumption), cell_on hb6 (by assumption), cell_on hb6 (by assumption), cell_on hb6 (by assumption), Blk.bel (by assumption) hb6, Sl.bel (by assumption) hb6, bel_nx (by assumption) hb6⟩)
        clear hK K
        try simp only [Act.put, List.getElem_toArray, List.getElem_cons_zero, List.getElem_cons_succ, List.setIfInBounds_toArray, List.set_cons_zero, List.set_cons_succ]
        refine wpAnyH_ready (rs := [8]) (by kernel_rfl) (by simp) ?_
        refine AllReadyH.cons rfl (fun K hK => ?_) AllReadyH.nil
        go_simp
        go_at_call 53
        refine (namesHave_b E B en ec m d (namesP l) af b3 _ hEs (by go_split_ands; assumption) HB3.out).mono ?_
        rintro e w7 ⟨rfl, rfl⟩
        refine hK.out _ _ ?_ (fun hHeld => ?_)
        · exact hHeld
        clear hK K
        try simp only [Act.put, List.getElem_toArray, List.getElem_cons_zero, List.getElem_cons_succ, List.setIfInBounds_toArray, List.set_cons_zero, List.set_cons_succ]
        refine wpAnyH_take (i := 9) (v := ?_) rfl (by kernel_rfl) (by kernel_rfl) (by kernel_rfl) (fun _ _ _ h => h) (Or.inl ⟨by kernel_rfl, ?_⟩) (by assumption) ?_
        rotate_left 1
        · intro w' hSw; (try dsimp only at hSw); go_simp; try with_reducible rfl
        simp only [Act.put, List.getElem_toArray, List.getElem_cons_zero, List.getElem_cons_succ, List.setIfInBounds_toArray, List.set_cons_zero, List.set_cons_succ]
        refine wpAnyH_take (i := 10) (v := ?_) rfl (by kernel_rfl) (by kernel_rfl) (by kernel_rfl) (fun _ _ _ h => h) (Or.inl ⟨by kernel_rfl, ?_⟩) (by assumption) ?_
        rotate_left 1
        · intro w' hSw; (try dsimp only at hSw); go_simp; try with_reducible rfl
        simp only [Act.put, List.getElem_toArray, List.getElem_cons_zero, List.getElem_cons_succ, List.setIfInBounds_toArray, List.set_cons_zero, List.set_cons_succ]
        refine wpAnyH_done (by kernel_rfl) ?_ _
        go_split_ands
        have hB : Below w.heap.size w w6 := by assumption
        have kB : Blk w6 w.heap.size 25 #[.int .i64 v, .slice (some ⟨b, off, none⟩) n c] := by assumption
        cases b3
        · have HF := Lib.hid (flowB_no (v := v) (l := l) (fun hh => by rw [stepsB_no2 HX.out HB3.out] at hh; exact absurd hh.2.2.2.1 (by simp)))
          go_wp2_with fail
          go_ret
          exact ⟨ret_bool HF.out.symm, hB⟩
        · have HN := Lib.hid (allP_next (P := fun p => stepB p.name p.after = true ∧ haveB (namesP l) p.after = true) HX.out ⟨HB2.out, HB3.out⟩ H.out)
          go_wp2_with fail
          go_roundw
          case rel => exact ⟨k + 1, by omega, by go_num, HN, kB, hB⟩
          case measure => simp [intOf]; omega
    · have HS := Lib.hid (stepsB_yes HL.out (fun j p hj hp => H.out j p (by omega) hp))
      have cf2 := kf.cell
      have hnn : n ≤ 1048576 := by omega
      go_wp2_with fail
      refine wp_region_held_drew (S := (fun w' => w'.cell? ⟨w.heap.size, 0, none⟩ = some (.int .i64 v) ∧ w'.cell? ⟨w.heap.size, 1, none⟩ = some (.slice A n c) ∧ Below w.heap.size w w')) (by kernel_rfl) ?_ (fun hHeld => ?_)
      · exact ⟨cf2 0, cf2 1, bel_dr hbr⟩
      refine wpAnyH_take (i := 0) (v := ?_) rfl (by kernel_rfl) (by kernel_rfl) (by kernel_rfl) (fun _ _ _ h => h) (Or.inl ⟨by kernel_rfl, ?_⟩) (by assumption) ?_
      rotate_left 1
      · intro w' hSw; (try dsimp only at hSw); go_simp; try with_reducible rfl
      simp only [Act.put, List.getElem_toArray, List.getElem_cons_zero, List.setIfInBounds_toArray, List.set_cons_zero, List.set_cons_succ]
      refine wpAnyH_take (i := 3) (v := ?_) rfl (by kernel_rfl) (by kernel_rfl) (by kernel_rfl) (fun _ _ _ h => h) (Or.inl ⟨by kernel_rfl, ?_⟩) (by assumption) ?_
      rotate_left 1
      · intro w' hSw; (try dsimp only at hSw); go_simp; try with_reducible rfl
      simp only [Act.put, List.getElem_toArray, List.getElem_cons_zero, List.getElem_cons_succ, List.setIfInBounds_toArray, List.set_cons_zero, List.set_cons_succ]
      refine wpAnyH_take (i := 4) (v := ?_) rfl (by kernel_rfl) (by kernel_rfl) (by kernel_rfl) (fun _ _ _ h => h) (Or.inl ⟨by kernel_rfl, ?_⟩) (by assumption) ?_
      rotate_left 1
      · intro w' hSw; (try dsimp only at hSw); go_simp; try with_reducible rfl
      simp only [Act.put, List.getElem_toArray, List.getElem_cons_zero, List.getElem_cons_succ, List.setIfInBounds_toArray, List.set_cons_zero, List.set_cons_succ]
      refine wpAnyH_take (i := 5) (v := ?_) rfl (by kernel_rfl) (by kernel_rfl) (by kernel_rfl) (fun _ _ _ h => h) (Or.inl ⟨by kernel_rfl, ?_⟩) (by assumption) ?_
      rotate_left 1
      · intro w' hSw; (try dsimp only at hSw); go_simp; try with_reducible rfl
      simp only [Act.put, List.getElem_toArray, List.getElem_cons_zero, List.getElem_cons_succ, List.setIfInBounds_toArray, List.set_cons_zero, List.set_cons_succ]
      refine wpAnyH_ready (rs := [1]) (by kernel_rfl) (by simp) ?_
      refine AllReadyH.cons rfl (fun K hK => ?_) AllReadyH.nil
      go_simp
      go_at_call 73
      refine (order_c v A n c l _ (h.bel (by go_split_ands; assumption)) hnn).mono ?_
      rintro e w7 ⟨E, en, ec, rfl, hE, hb7⟩
      refine hK.out _ _ ?_ (fun hHeld => ?_)
      · (go_split_ands; exact ⟨cell_on hb7 (by assumption), cell_on hb7 (by assumption), bel_nx (by assumption) hb7⟩)
      clear hK K
      try simp only [Act.put, List.getElem_toArray, List.getElem_cons_zero, List.getElem_cons_succ, List.setIfInBounds_toArray, List.set_cons_zero, List.set_cons_succ]
      refine wpAnyH_take (i := 2) (v := ?_) rfl (by kernel_rfl) (by kernel_rfl) (by kernel_rfl) (fun _ _ _ h => h) (Or.inl ⟨by kernel_rfl, ?_⟩) (by assumption) ?_
      rotate_left 1
      · intro w' hSw; (try dsimp only at hSw); go_simp; try with_reducible rfl
      simp only [Act.put, List.getElem_toArray, List.getElem_cons_zero, List.getElem_cons_succ, List.setIfInBounds_toArray, List.set_cons_zero, List.set_cons_succ]
      refine wpAnyH_take (i := 6) (v := ?_) rfl (by kernel_rfl) (by kernel_rfl) (by kernel_rfl) (fun _ _ _ h => h) (Or.inl ⟨by kernel_rfl, ?_⟩) (by assumption) ?_
      rotate_left 1
      · intro w' hSw; (try dsimp only at hSw); go_simp; try with_reducible rfl
      simp only [Act.put, List.getElem_toArray, List.getElem_cons_zero, List.getElem_cons_succ, List.setIfInBounds_toArray, List.set_cons_zero, List.set_cons_succ]
      refine wpAnyH_take (i := 7) (v := ?_) rfl (by kernel_rfl) (by kernel_rfl) (by kernel_rfl) (fun _ _ _ h => h) (Or.inl ⟨by kernel_rfl, ?_⟩) (by assumption) ?_
      rotate_left 1
      · intro w' hSw; (try dsimp only at hSw); go_simp; try with_reducible rfl
      simp only [Act.put, List.getElem_toArray, List.getElem_cons_zero, List.getElem_cons_succ, List.setIfInBounds_toArray, List.set_cons_zero, List.set_cons_succ]
      refine wpAnyH_done (by kernel_rfl) ?_ _
      go_split_ands
      have hen := own_countS hE
      have HEN := Lib.hid hen
      have hB : Below w.heap.size w w7 := by assumption
      clear hen
      by_cases he : en = n
      · have HF := Lib.hid (flowB_iff.2 ⟨⟨v1, v9⟩, ⟨by rw [HL.out]; exact n1, by rw [HL.out]; exact n8⟩, HB1.out, HS.out, by rw [← HEN.out, HL.out]; exact he⟩)
        have e1 : ((en : Int) == (n : Int)) = true := by simp; omega
        have E1 := Lib.hid e1
        go_wp2_with fail
        go_ret
        exact ⟨ret_bool (by first | exact HF.out.symm | (rw [HF.out]; exact E1.out)), hB⟩
      · have HF := Lib.hid (flowB_no (v := v) (l := l) (fun hh => he (by rw [HEN.out, hh.2.2.2.2, HL.out])))
        have e1 : ((en : Int) == (n : Int)) = false := by simp; omega
        have E1 := Lib.hid e1
        go_wp2_with fail
        go_ret
        exact ⟨ret_bool (by first | exact HF.out.symm | (rw [HF.out]; exact E1.out)), hB⟩

end Go.Proofs.Ytdchfiiaollheaa
