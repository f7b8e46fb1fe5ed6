/- Lists that are filled with what lies behind a step: plain laws of the loops. -/
import Derived.Test.YtdchfiiaollheaaBehPlain
namespace Go.Proofs.Ytdchfiiaollheaa

/-- Ascending or not: a name put into a list, the first k of its elements seen. -/
structure PutI (li : List ByteArray) (s : ByteArray) (k : Nat) (d : Bool) (out : List ByteArray) : Prop where
  mem : ∀ x, x ∈ out ↔ (x ∈ li.take k ∧ x ≠ s) ∨ (d = true ∧ x = s)
  nod : out.Nodup
  len : out.length ≤ k + (if d = true then 1 else 0)
section
variable {li out : List ByteArray} {s t : ByteArray} {k : Nat} {d : Bool}
theorem put0 (li : List ByteArray) (s : ByteArray) : PutI li s 0 false [] := ⟨fun x => by simp, by simp, by simp⟩
theorem put_mark (h : PutI li s k false out) : PutI li s k true (out ++ [s]) := by
  refine ⟨fun x => ?_, ?_, ?_⟩
  · rw [List.mem_append, h.mem]; simp
  · rw [List.nodup_append]
    refine ⟨h.nod, by simp, fun a ha b hb e => ?_⟩
    simp at hb
    subst hb
    subst e
    rcases (h.mem _).1 ha with h1 | h1
    · exact h1.2 rfl
    · cases h1.1
  · have := h.len; simp at this ⊢; omega
theorem put_add (hN : li.Nodup) (h : PutI li s k d out) (hx : li[k]? = some t) (hne : t ≠ s) : PutI li s (k + 1) d (out ++ [t]) := by
  have ht : t ∉ li.take k := by
    intro hm
    obtain ⟨j, hj, he⟩ := List.mem_iff_getElem.1 hm
    rw [List.getElem_take] at he
    obtain ⟨hk, hk2⟩ := List.getElem?_eq_some_iff.1 hx
    simp at hj
    rw [List.nodup_iff_pairwise_ne, List.pairwise_iff_getElem] at hN
    exact hN j k (by omega) hk (by omega) (he.trans hk2.symm)
  refine ⟨fun x => ?_, ?_, ?_⟩
  · rw [List.mem_append, h.mem, take_snocG hx, List.mem_append]
    constructor
    · rintro ((⟨h1, h2⟩ | h1) | h1)
      · exact .inl ⟨.inl h1, h2⟩
      · exact .inr h1
      · simp at h1; subst h1; exact .inl ⟨.inr (by simp), hne⟩
    · rintro (⟨h1 | h1, h2⟩ | h1)
      · exact .inl (.inl ⟨h1, h2⟩)
      · exact .inr h1
      · exact .inl (.inr h1)
  · rw [List.nodup_append]
    refine ⟨h.nod, by simp, fun a ha b hb e => ?_⟩
    simp at hb
    subst hb
    subst e
    rcases (h.mem _).1 ha with h1 | h1
    · exact ht h1.1
    · exact hne h1.2
  · have := h.len; simp; omega
theorem put_skip (h : PutI li s k true out) (hx : li[k]? = some s) : PutI li s (k + 1) true out := by
  refine ⟨fun x => ?_, h.nod, by have := h.len; simp at this ⊢; omega⟩
  rw [h.mem, take_snocG hx, List.mem_append]
  constructor
  · rintro (⟨h1, h2⟩ | h1)
    · exact .inl ⟨.inl h1, h2⟩
    · exact .inr h1
  · rintro (⟨h1 | h1, h2⟩ | h1)
    · exact .inl ⟨h1, h2⟩
    · simp at h1; exact absurd h1 h2
    · exact .inr h1
/-- A name was put into a list. -/
structure PutR (li : List ByteArray) (s : ByteArray) (out : List ByteArray) : Prop where
  nod : out.Nodup
  mem : ∀ x, x ∈ out ↔ x ∈ li ∨ x = s
theorem put_end (h : PutI li s k true out) (hk : li.length ≤ k) : PutR li s out := by
  refine ⟨h.nod, fun x => ?_⟩
  rw [h.mem, List.take_of_length_le hk]
  by_cases e : x = s
  · simp [e]
  · simp [e]
end

section
variable {l : List Stp} {s nm a : ByteArray} {o af m m' : List ByteArray} {r i k n : Nat} {u : Bool} {v : Int}
/-- r rounds are done. -/
def BI (l : List Stp) (s : ByteArray) (o : List ByteArray) (r : Nat) (m : List ByteArray) : Prop := m.Nodup ∧ (∀ x ∈ m, Beh l s x) ∧ ∀ x, Beh l s x → x ∈ o.take r → x ∈ m
/-- i steps of a round are done. -/
def BM (l : List Stp) (s : ByteArray) (o : List ByteArray) (r i : Nat) (m : List ByteArray) : Prop := BI l s o r m ∧ ∀ (j : Nat) (p : Stp), j < i → l[j]? = some p → Beh l s p.name → p.name ∈ o.take (r + 1) → p.name ∈ m
/-- k names that a step comes after are seen. -/
def BK (l : List Stp) (s : ByteArray) (o : List ByteArray) (r i : Nat) (nm : ByteArray) (af : List ByteArray) (k : Nat) (m : List ByteArray) : Prop :=
  BM l s o r i m ∧ (s ∈ af → nm ∈ m) ∧ ∀ (j : Nat) (a : ByteArray), j < k → af[j]? = some a → Beh l s a → a ∈ o.take r → nm ∈ m
theorem bi0 : BI l s o 0 [] := ⟨by simp, fun x h => (by cases h), fun x _ h => (by simp at h)⟩
theorem bm0 (h : BI l s o r m) : BM l s o r 0 m := ⟨h, fun j p hj => by omega⟩
theorem bm_put (h : BM l s o r i m) (hb : Beh l s nm) (hp : PutR m nm m') : BM l s o r i m' ∧ nm ∈ m' := by
  have hs : ∀ x, x ∈ m → x ∈ m' := fun x hx => (hp.mem x).2 (.inl hx)
  refine ⟨⟨⟨hp.nod, fun x hx => ?_, fun x hx ht => hs x (h.1.2.2 x hx ht)⟩, fun j p hj hl hx ht => hs _ (h.2 j p hj hl hx ht)⟩, (hp.mem nm).2 (.inr rfl)⟩
  rcases (hp.mem x).1 hx with h1 | h1
  · exact h.1.2.1 x h1
  · subst h1; exact hb
theorem bk0_in (h : BM l s o r i m) (hl : l[i]? = some ⟨nm, af, u⟩) (ha : inB af s = true) (hp : PutR m nm m') : BK l s o r i nm af 0 m' := by
  obtain ⟨h1, h2⟩ := bm_put h (Beh.base (p := ⟨nm, af, u⟩) (List.mem_of_getElem? hl) (inB_iff.1 ha)) hp
  exact ⟨h1, fun _ => h2, fun j a hj => by omega⟩
theorem bk0_out (h : BM l s o r i m) (ha : inB af s = false) : BK l s o r i nm af 0 m := ⟨h, fun hs => absurd hs (inB_no ha), fun j a hj => by omega⟩
theorem bk_in (h : BK l s o r i nm af k m) (hl : l[i]? = some ⟨nm, af, u⟩) (ha : af[k]? = some a) (hi : inB m a = true) (hp : PutR m nm m') : BK l s o r i nm af (k + 1) m' := by
  obtain ⟨h1, h2⟩ := bm_put h.1 (Beh.step (p := ⟨nm, af, u⟩) (List.mem_of_getElem? hl) (List.mem_of_getElem? ha) (h.1.1.2.1 a (inB_iff.1 hi))) hp
  exact ⟨h1, fun _ => h2, fun _ _ _ _ _ _ => h2⟩
theorem bk_out (h : BK l s o r i nm af k m) (ha : af[k]? = some a) (hi : inB m a = false) : BK l s o r i nm af (k + 1) m := by
  refine ⟨h.1, h.2.1, fun j b hj hb hB ht => ?_⟩
  rcases Nat.lt_or_ge j k with q | q
  · exact h.2.2 j b q hb hB ht
  · have e : j = k := by omega
    subst e
    rw [ha] at hb
    cases hb
    exact absurd (h.1.1.2.2 _ hB ht) (inB_no hi)
theorem bm_next (ho : Ord l o) (hN : (namesP l).Nodup) (h : BK l s o r i nm af k m) (hk : af.length ≤ k) (hl : l[i]? = some ⟨nm, af, u⟩) : BM l s o r (i + 1) m := by
  refine ⟨h.1.1, fun j p hj hp hB ht => ?_⟩
  rcases Nat.lt_or_ge j i with q | q
  · exact h.1.2 j p q hp hB ht
  · have e : j = i := by omega
    subst e
    rw [hl] at hp
    cases hp
    have hmem : (⟨nm, af, u⟩ : Stp) ∈ l := List.mem_of_getElem? hl
    show nm ∈ m
    have key : ∀ x, Beh l s x → x = nm → nm ∈ m := by
      intro x hx e
      cases hx with
      | base hq hs =>
        have := name_inj hN hq hmem e
        subst this
        exact h.2.1 hs
      | step hq ha hb =>
        have := name_inj hN hq hmem e
        subst this
        obtain ⟨z, hz, hzo⟩ := mem_take_at ht
        obtain ⟨y, hy, hyo⟩ := mem_take_at (ho.ahead hN hmem hzo ha)
        obtain ⟨w, hw, rfl⟩ := List.mem_iff_getElem.1 ha
        refine h.2.2 w _ (by simp at hw; omega) (List.getElem?_eq_getElem hw) hb ?_
        exact List.mem_of_getElem? (i := y) (by rw [List.getElem?_take, if_pos (by omega)]; exact hyo)
    exact key _ hB rfl
theorem bi_next (h : BM l s o r n m) (hn : l.length ≤ n) : BI l s o (r + 1) m := by
  refine ⟨h.1.1, h.1.2.1, fun x hx ht => ?_⟩
  obtain ⟨p, hp, rfl⟩ := List.mem_map.1 hx.names
  obtain ⟨j, hj, rfl⟩ := List.mem_iff_getElem.1 hp
  exact h.2 j _ (by omega) (List.getElem?_eq_getElem hj) hx ht
theorem bi_end (hf : flowB v l = true) (h : BI l s (orderP l) n m) (hn : l.length ≤ n) : IsBeh v l s m := by
  intro x
  have ho := ord_of hf
  rw [Bool.eq_iff_iff, inB_iff, behB_iff hf]
  refine ⟨h.2.1 x, fun hx => h.2.2 x hx ?_⟩
  rw [List.take_of_length_le (by rw [ho.len]; exact hn)]
  exact (ho.names x).2 hx.names
theorem bi_len (hf : flowB v l = true) (h : BI l s o r m) : m.length ≤ 8 := by
  have h1 := nodup_le h.1 (fun x hx => (h.2.1 x hx).names)
  have h2 := (flowB_iff.1 hf).2.1.2
  simp [namesP] at h1
  omega

/-- The program's set, i names of the order seen. -/
def SI (l : List Stp) (s : ByteArray) (o : List ByteArray) (i : Nat) (m : List ByteArray) : Prop := s ∈ m ∧ (∀ x ∈ m, x = s ∨ Beh l s x) ∧ ∀ x ∈ o.take i, Beh l s x → x ∈ m
/-- And k of the names that the next one comes after. -/
def SK (l : List Stp) (s : ByteArray) (o : List ByteArray) (i : Nat) (nm : ByteArray) (af : List ByteArray) (k : Nat) (m : List ByteArray) : Prop :=
  SI l s o i m ∧ ∀ (j : Nat) (a : ByteArray), j < k → af[j]? = some a → (a = s ∨ (Beh l s a ∧ a ∈ o.take i)) → nm ∈ m
theorem si0 : SI l s o 0 [s] := ⟨by simp, fun x h => (by simp at h; exact .inl h), fun x h => (by simp at h)⟩
theorem sk0 (h : SI l s o i m) : SK l s o i nm af 0 m := ⟨h, fun j a hj => by omega⟩
theorem sk_in (h : SK l s o i nm af k m) (hp : (⟨nm, af, u⟩ : Stp) ∈ l) (ha : af[k]? = some a) (hi : inB m a = true) : SK l s o i nm af (k + 1) (m ++ [nm]) := by
  have hb : Beh l s nm := by
    rcases h.1.2.1 a (inB_iff.1 hi) with e | hb
    · subst e; exact Beh.base (p := ⟨nm, af, u⟩) hp (List.mem_of_getElem? ha)
    · exact Beh.step (p := ⟨nm, af, u⟩) hp (List.mem_of_getElem? ha) hb
  refine ⟨⟨List.mem_append.2 (.inl h.1.1), fun x hx => ?_, fun x hx hB => List.mem_append.2 (.inl (h.1.2.2 x hx hB))⟩, fun _ _ _ _ _ => by simp⟩
  rcases List.mem_append.1 hx with h1 | h1
  · exact h.1.2.1 x h1
  · simp at h1; subst h1; exact .inr hb
theorem sk_out (h : SK l s o i nm af k m) (ha : af[k]? = some a) (hi : inB m a = false) : SK l s o i nm af (k + 1) m := by
  refine ⟨h.1, fun j b hj hb hB => ?_⟩
  rcases Nat.lt_or_ge j k with q | q
  · exact h.2 j b q hb hB
  · have e : j = k := by omega
    subst e
    rw [ha] at hb
    cases hb
    rcases hB with e | ⟨hB, ht⟩
    · subst e; exact absurd h.1.1 (inB_no hi)
    · exact absurd (h.1.2.2 _ ht hB) (inB_no hi)
theorem si_next (ho : Ord l o) (hN : (namesP l).Nodup) (h : SK l s o i nm af k m) (hk : af.length ≤ k) (hp : (⟨nm, af, u⟩ : Stp) ∈ l) (hi : o[i]? = some nm) : SI l s o (i + 1) m := by
  refine ⟨h.1.1, h.1.2.1, fun x hx hB => ?_⟩
  rw [take_snocG hi, List.mem_append] at hx
  rcases hx with hx | hx
  · exact h.1.2.2 x hx hB
  · simp at hx
    subst hx
    have key : ∀ y, Beh l s y → y = x → x ∈ m := by
      intro y hy e
      cases hy with
      | base hq hs =>
        have := name_inj hN hq hp e
        subst this
        obtain ⟨w, hw, he⟩ := List.mem_iff_getElem.1 hs
        exact h.2 w s (by simp at hw; omega) (by rw [← he]; exact List.getElem?_eq_getElem hw) (.inl rfl)
      | step hq ha hb =>
        have := name_inj hN hq hp e
        subst this
        obtain ⟨w, hw, rfl⟩ := List.mem_iff_getElem.1 ha
        exact h.2 w _ (by simp at hw; omega) (List.getElem?_eq_getElem hw) (.inr ⟨hb, ho.ahead hN hp hi ha⟩)
    exact key _ hB rfl
theorem si_end (hf : flowB v l = true) (h : SI l s (orderP l) n m) (hn : l.length ≤ n) : IsBeh v l s ((namesP l).filter (fun x => inB m x && !decide (x = s))) := by
  intro x
  have ho := ord_of hf
  have hN := flow_nodup hf
  rw [Bool.eq_iff_iff, inB_iff, behB_iff hf, List.mem_filter]
  simp only [Bool.and_eq_true, Bool.not_eq_true', decide_eq_false_iff_not]
  constructor
  · rintro ⟨_, h1, h2⟩
    rcases h.2.1 x (inB_iff.1 h1) with e | hb
    · exact absurd e h2
    · exact hb
  · intro hx
    refine ⟨hx.names, inB_iff.2 (h.2.2 x ?_ hx), fun e => ?_⟩
    · rw [List.take_of_length_le (by rw [ho.len]; exact hn)]
      exact (ho.names x).2 hx.names
    · subst e; exact ho.irrefl hN hx
end

end Go.Proofs.Ytdchfiiaollheaa
