/- A slice that reads as a list of rows of k cells each; what keeps it; an owned row read so. -/
import Derived.Test.YtdchfiiaollheaaBase
namespace Go.Proofs.Ytdchfiiaollheaa
open Go.RowKit

/-- The slice's value '.slice A n c' reads as the list l, an element in k cells. -/
structure Sl {α : Type} (enc : α → List Value) (k : Nat) (w : World) (A : Option Addr) (n c : Nat) (l : List α) : Prop where
  len : l.length = n
  cap : n ≤ c
  max : c ≤ 9223372036854775807
  at_ : 0 < n → ∃ b off, A = some ⟨b, off, none⟩ ∧ ∀ i a, l[i]? = some a → ∀ j u, (enc a)[j]? = some u → w.cell? ⟨b, off + i * k + j, none⟩ = some u

section
variable {α : Type} {enc : α → List Value} {k : Nat} {w w' : World} {A : Option Addr} {n c : Nat} {l : List α}

theorem Sl.keep (h : Sl enc k w A n c l) (hk : ∀ p, (w.cell? p).isSome = true → w'.cell? p = w.cell? p) : Sl enc k w' A n c l :=
  ⟨h.len, h.cap, h.max, fun hn => by
    obtain ⟨b, off, hA, hc⟩ := h.at_ hn
    refine ⟨b, off, hA, fun i a ha j u hu => ?_⟩
    have := hc i a ha j u hu
    rw [hk _ (by rw [this]; rfl), this]⟩

theorem Sl.bel (h : Sl enc k w A n c l) (hb : Below w.heap.size w w') : Sl enc k w' A n c l := h.keep (bcell hb (Nat.le_refl _)).1
theorem Sl.al (h : Sl enc k w A n c l) (o : Obj) : Sl enc k (w.alloc o) A n c l := h.keep fun p hp => cell_alloc_some w o p hp
theorem Sl.dr (h : Sl enc k w A n c l) : Sl enc k w.drew A n c l := h.keep fun _ _ => rfl
theorem Sl.drN (h : Sl enc k w A n c l) (q : Nat) : Sl enc k (w.drewN q) A n c l := h.keep fun _ _ => rfl

theorem Sl.nil_ (enc : α → List Value) (k : Nat) (w : World) : Sl enc k w none 0 0 [] := ⟨rfl, Nat.le_refl _, by omega, fun h => by omega⟩

theorem Sl.cell0 (h : Sl enc k w A n c l) {i : Nat} (hi : i < n) : ∃ b off, A = some ⟨b, off, none⟩ ∧ ∃ a, l[i]? = some a ∧ ∀ j u, (enc a)[j]? = some u → w.cell? ⟨b, off + i * k + j, none⟩ = some u := by
  obtain ⟨b, off, hA, hc⟩ := h.at_ (by omega)
  have hl : i < l.length := by rw [h.len]; exact hi
  exact ⟨b, off, hA, l[i], List.getElem?_eq_getElem hl, hc i _ (List.getElem?_eq_getElem hl)⟩

theorem Sl.take (h : Sl enc k w A n c l) {m : Nat} (hm : m ≤ n) : Sl enc k w A m c (l.take m) :=
  ⟨by rw [List.length_take, h.len]; omega, by have := h.cap; omega, h.max, fun hn => by
    obtain ⟨b, off, hA, hc⟩ := h.at_ (by omega)
    refine ⟨b, off, hA, fun i a ha => hc i a ?_⟩
    rw [List.getElem?_take] at ha
    split at ha
    · exact ha
    · cases ha⟩

theorem Sl.drop {b off : Nat} (h : Sl enc k w (some ⟨b, off, none⟩) n c l) {m : Nat} (hm : m ≤ n) : Sl enc k w (if c = m then some ⟨b, off, none⟩ else some ⟨b, off + m * k, none⟩) (n - m) (c - m) (l.drop m) := by
  refine ⟨by rw [List.length_drop, h.len], by have := h.cap; omega, by have := h.max; omega, fun hn => ?_⟩
  obtain ⟨b', off', hA, hc⟩ := h.at_ (by omega)
  cases hA
  rw [if_neg (by have := h.cap; omega)]
  refine ⟨_, _, rfl, fun i a ha j u hu => ?_⟩
  rw [List.getElem?_drop] at ha
  have := hc (m + i) a ha j u hu
  rwa [Nat.add_mul, ← Nat.add_assoc] at this

theorem flat_get (hk : ∀ a, (enc a).length = k) : ∀ (l : List α) (i j : Nat) (a : α), l[i]? = some a → j < k → (l.flatMap enc)[i * k + j]? = (enc a)[j]?
  | [], i, j, a, h, _ => by simp at h
  | x :: l, 0, j, a, h, hj => by
    simp at h
    subst h
    simp [List.getElem?_append_left, hk, hj]
  | x :: l, i + 1, j, a, h, hj => by
    simp only [List.getElem?_cons_succ] at h
    rw [List.flatMap_cons, List.getElem?_append_right (by rw [hk, Nat.succ_mul]; omega), hk, show (i + 1) * k + j - k = i * k + j by rw [Nat.succ_mul]; omega]
    exact flat_get hk l i j a h hj

theorem flat_len (hk : ∀ a, (enc a).length = k) (l : List α) : (l.flatMap enc).length = l.length * k := by
  induction l with
  | nil => simp
  | cons x l ih => rw [List.flatMap_cons, List.length_append, hk, ih, List.length_cons, Nat.succ_mul]; omega

theorem Sl.of_own {B : Nat} {e : TypeId} (hk : ∀ a, (enc a).length = k) (h : w.ownsRow B e k (.slice A n c) n (l.flatMap enc)) (hl : l.length = n) : Sl enc k w A n c l := by
  obtain ⟨a', c', hv, hc1, hc2⟩ := own_cap h
  obtain ⟨rfl, _, rfl⟩ := slice_inj hv
  unfold maxLen at hc2
  refine ⟨hl, hc1, by omega, fun hn => ?_⟩
  obtain ⟨g, cap, hv, _, _⟩ := h.form hn
  obtain ⟨rfl, _, rfl⟩ := slice_inj hv
  refine ⟨g, 0, rfl, fun i a ha j u hu => ?_⟩
  have hi : i < l.length := (List.getElem?_eq_some_iff.1 ha).1
  have hj : j < k := by rw [← hk a]; exact (List.getElem?_eq_some_iff.1 hu).1
  have hlt : i * k + j < n * k := by
    have : (i + 1) * k ≤ n * k := Nat.mul_le_mul_right _ (by omega)
    rw [Nat.succ_mul] at this
    omega
  rw [Nat.zero_add, h.cellAt _ hlt, flat_get hk l i j a ha hj, hu]

end

theorem flat_set1 {α : Type} {enc : α → List Value} {k : Nat} (hk : ∀ a, (enc a).length = k) {j : Nat} (hj : j < k) {u : Value} {a' : α} : ∀ (l : List α) (i : Nat) (a : α), l[i]? = some a → enc a' = (enc a).set j u → (l.flatMap enc).set (i * k + j) u = (l.set i a').flatMap enc
  | [], i, a, h, _ => by simp at h
  | x :: l, 0, a, h, he => by
    simp at h
    subst h
    rw [List.flatMap_cons, List.set_append_left _ _ (by rw [hk]; omega), List.set_cons_zero, List.flatMap_cons, he, Nat.zero_mul, Nat.zero_add]
  | x :: l, i + 1, a, h, he => by
    simp only [List.getElem?_cons_succ] at h
    rw [List.flatMap_cons, List.set_append_right _ _ (by rw [hk, Nat.succ_mul]; omega), hk, List.set_cons_succ, List.flatMap_cons, ← flat_set1 hk hj l i a h he, show (i + 1) * k + j - k = i * k + j by rw [Nat.succ_mul]; omega]

theorem own_at {w : World} {B : Nat} {e : TypeId} {size g n c : Nat} {xs : List Value} (h : w.ownsRow B e size (.slice (some ⟨g, 0, none⟩) n c) n xs) {j : Nat} (hj : j < n * size) :
    (∃ v, w.cell? ⟨g, j, none⟩ = some v) ∧ w.frozen? ⟨g, j, none⟩ = false := by
  refine ⟨?_, h.frozenAt j⟩
  rw [h.cellAt j hj]
  exact ⟨_, List.getElem?_eq_getElem (by rw [h.1]; exact hj)⟩

end Go.Proofs.Ytdchfiiaollheaa
