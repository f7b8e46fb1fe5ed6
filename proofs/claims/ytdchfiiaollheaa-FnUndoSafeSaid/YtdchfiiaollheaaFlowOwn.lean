/- Steps of the call's own that may yet grow: kept, added to, a list of one of them changed. -/
import Derived.Test.YtdchfiiaollheaaFlowTo2
import Derived.Test.YtdchfiiaollheaaDraw
namespace Go.Proofs.Ytdchfiiaollheaa
open Go.RowKit

/-- Steps of the call's own (whether their lists lie apart is not told). -/
def OwnQ (w : World) (B : Nat) (A : Option Addr) (n c : Nat) (l : List Stp) : Prop :=
  ∃ raw : List RawP, w.ownsRow B 30 3 (.slice A n c) n (raw.flatMap encP) ∧ raw.length = n ∧ l.length = n ∧ (∀ (i : Nat) (r : RawP) (s : Stp), raw[i]? = some r → l[i]? = some s → OwnS w B r s)
section
variable {w w' : World} {B B' R : Nat} {A : Option Addr} {n c : Nat} {l : List Stp}
theorem OwnQ.kept (h : OwnQ w B A n c l) (hk : ∀ (e : TypeId) (k : Nat) (v : Value) (m : Nat) (xs : List Value), (e = 30 ∨ e = 9) → w.ownsRow B e k v m xs → w'.ownsRow B e k v m xs) : OwnQ w' B A n c l := by
  obtain ⟨raw, h1, h2, h3, h4⟩ := h
  exact ⟨raw, hk _ _ _ _ _ (.inl rfl) h1, h2, h3, fun i r s hr hs => ⟨(h4 i r s hr hs).1, (h4 i r s hr hs).2.1, hk _ _ _ _ _ (.inr rfl) (h4 i r s hr hs).2.2⟩⟩
theorem OwnQ.bel (h : OwnQ w B A n c l) (hb : Below w.heap.size w w') : OwnQ w' B A n c l := h.kept fun _ _ _ _ _ _ h => own_bel h hb
theorem OwnQ.al (h : OwnQ w B A n c l) (o : Obj) : OwnQ (w.alloc o) B A n c l := h.kept fun _ _ _ _ _ _ h => h.alloc o
theorem OwnQ.dr (h : OwnQ w B A n c l) : OwnQ w.drew B A n c l := h
theorem OwnQ.gr (h : OwnQ w B A n c l) (hg : w.grownBy w' (some R)) (hR : R < B) : OwnQ w' B A n c l := h.kept fun _ _ _ _ _ _ h => own_gr h hg hR
theorem OwnQ.blk (h : OwnQ w B A n c l) {g : Nat} {t : TypeId} {cs : Array Value} (hb : Blk w g t cs) (h1 : 30 ≠ t) (h2 : 9 ≠ t) (hg : w.grownBy w' (some g)) : OwnQ w' B A n c l :=
  h.kept fun e _ _ _ _ he h => h.kept hg (.inr (own_ne_blk h hb (he.elim (fun e => by rw [e]; exact h1) (fun e => by rw [e]; exact h2))))
theorem OwnQ.base (h : OwnQ w B A n c l) (hB : B' ≤ B) : OwnQ w B' A n c l := by
  obtain ⟨raw, h1, h2, h3, h4⟩ := h
  exact ⟨raw, ownsRow_base h1 hB, h2, h3, fun i r s hr hs => ⟨(h4 i r s hr hs).1, (h4 i r s hr hs).2.1, ownsRow_base (h4 i r s hr hs).2.2 hB⟩⟩
theorem OwnQ.read (h : OwnQ w B A n c l) : SlP w A n c l := by
  obtain ⟨raw, h1, h2, h3, h4⟩ := h
  refine ⟨raw, Sl.of_own (fun _ => rfl) h1 h2, h3, fun i r s hr hs => ?_⟩
  obtain ⟨e1, e2, e3⟩ := h4 i r s hr hs
  exact ⟨e1, e2, SlS.of_own e3⟩
/-- One step more: the row has grown, of the lists nothing is changed. -/
theorem OwnQ.snoc {A' : Option Addr} {c' : Nat} {r : RawP} {s : Stp} {raw : List RawP} (h1 : w.ownsRow B 30 3 (.slice A n c) n (raw.flatMap encP)) (h2 : raw.length = n) (h3 : l.length = n)
    (h4 : ∀ (i : Nat) (r : RawP) (s : Stp), raw[i]? = some r → l[i]? = some s → OwnS w B r s) (hr : OwnS w B r s)
    (h5 : w'.ownsRow B 30 3 (.slice A' (n + 1) c') (n + 1) (raw.flatMap encP ++ [r].flatMap encP)) (hg : w.grownBy w' (Value.slice A n c).ownBlock) : OwnQ w' B A' (n + 1) c' (l ++ [s]) := by
  refine ⟨raw ++ [r], by rw [List.flatMap_append]; exact h5, by simp [h2], by simp [h3], fun i q t hq ht => ?_⟩
  have hk : ∀ (q : RawP) (t : Stp), OwnS w B q t → OwnS w' B q t := fun q t ho => ⟨ho.1, ho.2.1, ho.2.2.kept hg (own_ne_own ho.2.2 h1 (by decide))⟩
  rcases Nat.lt_or_ge i n with hi | hi
  · rw [List.getElem?_append_left (by omega)] at hq ht
    exact hk _ _ (h4 i q t hq ht)
  · rw [List.getElem?_append_right (by omega)] at hq ht
    have e0 : i - raw.length = 0 := by
      have := (List.getElem?_eq_some_iff.1 hq).1
      simp at this
      omega
    rw [e0] at hq
    rw [show i - l.length = 0 by omega] at ht
    simp at hq ht
    subst hq ht
    exact hk _ _ hr
/-- The list of a step is another. -/
theorem OwnQ.setAfter {g : Nat} {D : Option Addr} {m d : Nat} {ys : List ByteArray} (h : OwnQ w B (some ⟨g, 0, none⟩) n c l) {i : Nat} {s : Stp} (hs : l[i]? = some s) (ho : w.ownsRow B 9 1 (.slice D m d) m (ys.map Value.string)) :
    OwnQ (w.setCell ⟨g, i * 3 + 1, none⟩ (.slice D m d)) B (some ⟨g, 0, none⟩) n c (l.set i ⟨s.name, ys, s.undo⟩) := by
  obtain ⟨raw, h1, h2, h3, h4⟩ := h
  have hil : i < l.length := (List.getElem?_eq_some_iff.1 hs).1
  obtain ⟨r, hr⟩ : ∃ r, raw[i]? = some r := ⟨_, List.getElem?_eq_getElem (by omega)⟩
  have hst := (h1.stored (i * 3 + 1) (.slice D m d)).1
  rw [flat_set1 (enc := encP) (fun _ => rfl) (by omega) (a' := ⟨r.name, D, m, d, r.undo⟩) raw i r hr rfl] at hst
  have hg := gr_cell w g (i * 3 + 1) (.slice D m d)
  have hk : ∀ (q : RawP) (t : Stp), OwnS w B q t → OwnS (w.setCell ⟨g, i * 3 + 1, none⟩ (.slice D m d)) B q t := fun q t ho => ⟨ho.1, ho.2.1, ho.2.2.kept hg (own_ne_own ho.2.2 h1 (by decide))⟩
  refine ⟨_, hst, by rw [List.length_set]; exact h2, by rw [List.length_set]; exact h3, fun j q t hq ht => ?_⟩
  by_cases hj : j = i
  · subst hj
    rw [List.getElem?_set_self (by omega)] at hq ht
    cases hq; cases ht
    exact ⟨(h4 _ r s hr hs).1, (h4 _ r s hr hs).2.1, ho.kept hg (own_ne_own ho h1 (by decide))⟩
  · rw [List.getElem?_set_ne (fun e => hj e.symm)] at hq ht
    exact hk _ _ (h4 j q t hq ht)
/-- Whether a step can be undone is another. -/
theorem OwnQ.setUndo {g : Nat} {u : Bool} (h : OwnQ w B (some ⟨g, 0, none⟩) n c l) {i : Nat} {s : Stp} (hs : l[i]? = some s) :
    OwnQ (w.setCell ⟨g, i * 3 + 2, none⟩ (.bool u)) B (some ⟨g, 0, none⟩) n c (l.set i ⟨s.name, s.after, u⟩) := by
  obtain ⟨raw, h1, h2, h3, h4⟩ := h
  have hil : i < l.length := (List.getElem?_eq_some_iff.1 hs).1
  obtain ⟨r, hr⟩ : ∃ r, raw[i]? = some r := ⟨_, List.getElem?_eq_getElem (by omega)⟩
  have hst := (h1.stored (i * 3 + 2) (.bool u)).1
  rw [flat_set1 (enc := encP) (fun _ => rfl) (by omega) (a' := ⟨r.name, r.A, r.n, r.c, u⟩) raw i r hr rfl] at hst
  have hg := gr_cell w g (i * 3 + 2) (.bool u)
  have hk : ∀ (q : RawP) (t : Stp), OwnS w B q t → OwnS (w.setCell ⟨g, i * 3 + 2, none⟩ (.bool u)) B q t := fun q t ho => ⟨ho.1, ho.2.1, ho.2.2.kept hg (own_ne_own ho.2.2 h1 (by decide))⟩
  refine ⟨_, hst, by rw [List.length_set]; exact h2, by rw [List.length_set]; exact h3, fun j q t hq ht => ?_⟩
  by_cases hj : j = i
  · subst hj
    rw [List.getElem?_set_self (by omega)] at hq ht
    cases hq; cases ht
    have ho := hk _ _ (h4 _ r s hr hs)
    exact ⟨ho.1, rfl, ho.2.2⟩
  · rw [List.getElem?_set_ne (fun e => hj e.symm)] at hq ht
    exact hk _ _ (h4 j q t hq ht)
end

/-- All that a drawn flow holds is short. -/
def Sm5 (l : List Stp) : Prop := ∀ p ∈ l, p.name.size ≤ 5 ∧ p.after.length ≤ 4 ∧ ∀ s ∈ p.after, s.size ≤ 5
theorem Sm5.szP {l : List Stp} (h : Sm5 l) : SzP l := fun p hp => ⟨by have := (h p hp).1; omega, fun s hs => by have := (h p hp).2.2 s hs; omega⟩
theorem sm5_snoc {l : List Stp} {p : Stp} (h : Sm5 l) (h1 : p.name.size ≤ 5) (h2 : p.after.length ≤ 4) (h3 : ∀ s ∈ p.after, s.size ≤ 5) : Sm5 (l ++ [p]) := by
  intro q hq
  rcases List.mem_append.1 hq with h' | h'
  · exact h q h'
  · simp at h'; subst h'; exact ⟨h1, h2, h3⟩
theorem sm5_set {l : List Stp} {p : Stp} {i : Nat} (h : Sm5 l) (h1 : p.name.size ≤ 5) (h2 : p.after.length ≤ 4) (h3 : ∀ s ∈ p.after, s.size ≤ 5) : Sm5 (l.set i p) := by
  intro q hq
  rcases List.mem_or_eq_of_mem_set hq with h' | rfl
  · exact h q h'
  · exact ⟨h1, h2, h3⟩

end Go.Proofs.Ytdchfiiaollheaa
