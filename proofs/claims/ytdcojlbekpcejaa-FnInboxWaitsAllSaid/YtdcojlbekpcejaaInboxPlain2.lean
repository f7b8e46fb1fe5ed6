/- The messages that are missing, in plain lists. No program is in sight here. -/
import Derived.Test.YtdcojlbekpcejaaInboxPlain
namespace Go.Proofs.Ytdcojlbekpcejaa

theorem missF_mem {a y : Int} {l : List Int} {k : Nat} : y ∈ missF a l k ↔ a + 1 ≤ y ∧ y ≤ a + (k : Int) ∧ hasB a l y = false := by
  simp only [missF, List.mem_filter, List.mem_map, List.mem_range, Bool.not_eq_true']
  constructor
  · rintro ⟨⟨i, hi, rfl⟩, h⟩; exact ⟨by omega, by omega, h⟩
  · rintro ⟨h1, h2, h3⟩; exact ⟨⟨(y - (a + 1)).toNat, by omega, by omega⟩, h3⟩
theorem missF_pw (a : Int) (l : List Int) (k : Nat) : (missF a l k).Pairwise (· < ·) := by
  refine List.Pairwise.filter _ ?_
  rw [List.pairwise_map]
  exact List.pairwise_lt_range.imp (fun h => by omega)
theorem next_out {a : Int} {l : List Int} (h : inbB a l = true) : hasB a l (a + 1) = false := by
  obtain ⟨_, _, _, h3, _⟩ := inb_iff.1 h
  exact has_not.2 (by rintro (h | h); exact absurd h (by omega); have := (h3 _ h).1; omega)
theorem missF_head {a : Int} {l : List Int} {k : Nat} (h : inbB a l = true) (hk : 0 < k) : (missF a l k)[0]? = some (a + 1) := by
  obtain ⟨j, rfl⟩ : ∃ j, k = j + 1 := ⟨k - 1, by omega⟩
  have : missF a l (j + 1) = (a + 1) :: ((List.range j).map (fun (i : Nat) => a + 1 + ((i + 1 : Nat) : Int))).filter (fun x => ! hasB a l x) := by
    unfold missF
    rw [List.range_succ_eq_map, List.map_cons, List.filter_cons]
    rw [if_pos (by simp [next_out h])]
    simp [List.map_map, Function.comp_def]
  rw [this]; rfl

/-- What is known of a list of missing messages that is not empty. -/
theorem waits_known {a : Int} {l : List Int} (hne : waitsF a l ≠ []) : inbB a l = true ∧ ∃ z, l.getLast? = some z ∧ z ∈ l ∧ waitsF a l = missF a l (z - (a + 1)).toNat ∧ a + 2 ≤ z ∧ z ≤ 999 := by
  by_cases hv : inbB a l = true
  · refine ⟨hv, ?_⟩
    rcases hl : l.getLast? with _ | z
    · exact absurd (by simp [waitsF, hv, hl]) hne
    · have hz : z ∈ l := List.mem_of_getLast? hl
      obtain ⟨_, _, _, h3, _⟩ := inb_iff.1 hv
      exact ⟨z, rfl, hz, by simp [waitsF, hv, hl], h3 z hz⟩
  · exact absurd (by simp [waitsF, hv]) hne
theorem waits_at {a y : Int} {l : List Int} {i : Nat} (h : (waitsF a l)[i]? = some y) : inHasB a l y = false ∧ 1 ≤ y ∧ y ≤ 999 := by
  have hm : y ∈ waitsF a l := List.mem_of_getElem? h
  obtain ⟨hv, z, _, _, he, hz2, hz9⟩ := waits_known (List.ne_nil_of_mem hm)
  rw [he, missF_mem] at hm
  obtain ⟨h0, _⟩ := inb_iff.1 hv
  refine ⟨?_, by omega, by omega⟩
  rw [inHasB_yes hv ⟨by omega, by omega⟩]
  exact hm.2.2
theorem waits_pw (a : Int) (l : List Int) : (waitsF a l).Pairwise (· < ·) := by
  by_cases hne : waitsF a l = []
  · rw [hne]; exact List.Pairwise.nil
  · obtain ⟨_, z, _, _, he, _⟩ := waits_known hne
    rw [he]; exact missF_pw _ _ _
theorem waits_lt {a x y : Int} {l : List Int} {i j : Nat} (h : (waitsF a l)[i]? = some x) (h' : (waitsF a l)[j]? = some y) (hij : i < j) : x < y := by
  have := waits_pw a l
  rw [List.pairwise_iff_getElem] at this
  obtain ⟨h1, rfl⟩ := List.getElem?_eq_some_iff.1 h
  obtain ⟨h2, rfl⟩ := List.getElem?_eq_some_iff.1 h'
  exact this _ _ h1 h2 hij
theorem waits_head {a y : Int} {l : List Int} (h : (waitsF a l)[0]? = some y) : y = a + 1 := by
  have hm : y ∈ waitsF a l := List.mem_of_getElem? h
  obtain ⟨hv, z, _, _, he, hz2, hz9⟩ := waits_known (List.ne_nil_of_mem hm)
  rw [he, missF_head hv (by omega)] at h
  injection h with h; exact h.symm

/-- After the first i missing messages have been taken. -/
def partB (a : Int) (l : List Int) (i : Nat) (b : Int) (m : List Int) : Prop :=
  inbB b m = true ∧ ∀ z, 1 ≤ z → hasB b m z = (hasB a l z || decide (z ∈ (waitsF a l).take i))
theorem part_zero {a : Int} {l : List Int} (h : inbB a l = true) : partB a l 0 a l := ⟨h, fun z _ => by simp⟩
theorem part_next {a b y : Int} {l m : List Int} {i : Nat} (h : partB a l i b m) (hy : (waitsF a l)[i]? = some y) : b + 1 = y := by
  obtain ⟨hv, hm⟩ := h
  have hyw : y ∈ waitsF a l := List.mem_of_getElem? hy
  obtain ⟨ha, z, _, _, he, hz2, hz9⟩ := waits_known (List.ne_nil_of_mem hyw)
  have hy2 := hyw
  rw [he, missF_mem] at hy2
  obtain ⟨hy1, hyz, hyn⟩ := hy2
  obtain ⟨a0, _⟩ := inb_iff.1 ha
  obtain ⟨b0, _⟩ := inb_iff.1 hv
  have hyl : hasB b m y = false := by
    rw [hm y (by omega), hyn, Bool.false_or, decide_eq_false]
    intro hin
    obtain ⟨j, hj, hje⟩ := List.mem_iff_getElem.1 hin
    simp at hj
    have hjy : (waitsF a l)[j]? = some y := by rw [← hje, List.getElem_take]; exact List.getElem?_eq_getElem (by omega)
    have := waits_lt hjy hy (by omega)
    omega
  have hall : ∀ x, 1 ≤ x → x < y → hasB b m x = true := by
    intro x hx1 hxy
    rw [hm x hx1]
    cases hx : hasB a l x
    · rw [Bool.false_or, decide_eq_true_iff]
      have hxa : a < x := by
        have := has_not.1 hx
        omega
      have hxw : x ∈ waitsF a l := by rw [he, missF_mem]; exact ⟨by omega, by omega, hx⟩
      obtain ⟨j, hj, rfl⟩ := List.mem_iff_getElem.1 hxw
      have hji : j < i := by
        rcases Nat.lt_or_ge j i with q | q
        · exact q
        · rcases Nat.eq_or_lt_of_le q with q | q
          · subst q
            have : (waitsF a l)[i]? = some (waitsF a l)[i] := List.getElem?_eq_getElem hj
            rw [hy] at this
            injection this with this
            omega
          · have := waits_lt hy (List.getElem?_eq_getElem hj) q
            omega
      exact List.mem_iff_getElem.2 ⟨j, by simp; omega, by rw [List.getElem_take]⟩
    · rfl
  have hb1 : b < y := by
    rcases (show b < y ∨ y ≤ b by omega) with q | q
    · exact q
    · rw [has_iff.2 (.inl q)] at hyl; cases hyl
  rcases (show b + 1 < y ∨ y ≤ b + 1 by omega) with q | q
  · have := hall (b + 1) (by omega) q
    rw [next_out hv] at this; cases this
  · omega
theorem take_snoc' {l : List Int} {k : Nat} {z : Int} (h : l[k]? = some z) : l.take (k + 1) = l.take k ++ [z] := by
  rw [List.take_add_one, h]; rfl
theorem part_step {a b y b' : Int} {l m m' : List Int} {i : Nat} {f : Bool} (h : partB a l i b m) (hy : (waitsF a l)[i]? = some y) (ht : takeF b m y = (b', m', f, true)) : partB a l (i + 1) b' m' := by
  obtain ⟨_, _, _, hv, _, hm⟩ := take_ok ht
  refine ⟨hv, fun z hz => ?_⟩
  rw [hm, h.2 z hz, Bool.or_assoc]
  congr 1
  rw [take_snoc' hy, Bool.eq_iff_iff]
  simp
theorem part_end {a b : Int} {l m : List Int} {i : Nat} (h : partB a l i b m) (hne : waitsF a l ≠ []) (hi : (waitsF a l).length ≤ i) : ∃ z, l.getLast? = some z ∧ b = z ∧ m = [] := by
  obtain ⟨ha, z, hl, hzl, he, hz2, hz9⟩ := waits_known hne
  obtain ⟨a0, a9, _, h3, hpw⟩ := inb_iff.1 ha
  refine ⟨z, hl, ?_⟩
  have hz : inbB z [] = true := inb_iff.2 ⟨by omega, hz9, by simp, by simp, List.Pairwise.nil⟩
  refine canon h.1 hz (fun x hx => ?_)
  rw [h.2 x hx, List.take_of_length_le hi, Bool.eq_iff_iff, Bool.or_eq_true, decide_eq_true_iff, has_iff, has_iff, he, missF_mem]
  have hlast : ∀ u ∈ l, u ≤ z := by
    intro u hu
    obtain ⟨j, hj, rfl⟩ := List.mem_iff_getElem.1 hu
    rw [List.getLast?_eq_getElem?] at hl
    obtain ⟨h1, rfl⟩ := List.getElem?_eq_some_iff.1 hl
    rw [List.pairwise_iff_getElem] at hpw
    rcases Nat.lt_or_ge j (l.length - 1) with q | q
    · exact Int.le_of_lt (hpw _ _ hj h1 q)
    · have : j = l.length - 1 := by omega
      subst this; exact Int.le_refl _
  constructor
  · rintro ((h | h) | h)
    · exact .inl (by omega)
    · exact .inl (hlast x h)
    · exact .inl (by omega)
  · rintro (h | h)
    · by_cases hxa : x ≤ a
      · exact .inl (.inl hxa)
      · by_cases hxl : x ∈ l
        · exact .inl (.inr hxl)
        · refine .inr ⟨by omega, ?_, has_not.2 (by rintro (h | h); exact hxa h; exact hxl h)⟩
          have : x ≠ z := fun e => hxl (e ▸ hzl)
          omega
    · simp at h

end Go.Proofs.Ytdcojlbekpcejaa
