/- Steps of the call's own, the list of one of which lies apart from all others and grows. -/
import Derived.Test.YtdchfiiaollheaaFlowDraw
namespace Go.Proofs.Ytdchfiiaollheaa
open Go.RowKit

theorem OwnQ.form {w : World} {B : Nat} {A : Option Addr} {n c : Nat} {l : List Stp} (h : OwnQ w B A n c l) (hn : 0 < n) : ∃ g, A = some ⟨g, 0, none⟩ ∧ B ≤ g ∧ g < w.heap.size := by
  obtain ⟨raw, h1, _⟩ := h
  obtain ⟨g, cap, hA, hB, hl⟩ := h1.form hn
  obtain ⟨rfl, _, rfl⟩ := slice_inj hA
  exact ⟨g, rfl, hB, hl⟩
theorem OwnQ.at_ {w : World} {B g : Nat} {n c : Nat} {l : List Stp} (h : OwnQ w B (some ⟨g, 0, none⟩) n c l) {j : Nat} (hj : j < n * 3) : (∃ v, w.cell? ⟨g, j, none⟩ = some v) ∧ w.frozen? ⟨g, j, none⟩ = false := by
  obtain ⟨raw, h1, _⟩ := h
  exact own_at h1 hj
theorem OwnQ.ne {w : World} {B g g' : Nat} {n c : Nat} {l : List Stp} {t : TypeId} {cs : Array Value} (h : OwnQ w B (some ⟨g, 0, none⟩) n c l) (hb : Blk w g' t cs) (h1 : 30 ≠ t) : g' ≠ g := by
  obtain ⟨raw, h2, _⟩ := h
  have := own_ne_blk h2 hb h1
  intro e
  exact this (by rw [e]; rfl)

/-- The list of step p is 'D', it lies apart from Wb on. -/
def OwnL (w : World) (B Wb g n c p : Nat) (l : List Stp) (D : Option Addr) (dm dd : Nat) (ys : List ByteArray) : Prop :=
  ∃ raw : List RawP, w.ownsRow B 30 3 (.slice (some ⟨g, 0, none⟩) n c) n (raw.flatMap encP) ∧ raw.length = n ∧ l.length = n ∧
    (∀ (j : Nat) (r : RawP) (s : Stp), j ≠ p → raw[j]? = some r → l[j]? = some s → OwnS w B r s ∧ ∀ q, (Value.slice r.A r.n r.c).ownBlock = some q → q < Wb) ∧
    (∃ (nm : ByteArray) (u : Bool) (s : Stp), raw[p]? = some ⟨nm, D, dm, dd, u⟩ ∧ l[p]? = some s ∧ nm = s.name ∧ u = s.undo) ∧
    w.ownsRow Wb 9 1 (.slice D dm dd) dm (ys.map Value.string) ∧ B ≤ Wb
section
variable {w w' : World} {B Wb g n c p dm dd R : Nat} {l : List Stp} {D : Option Addr} {ys : List ByteArray}
theorem OwnL.own (h : OwnL w B Wb g n c p l D dm dd ys) : w.ownsRow Wb 9 1 (.slice D dm dd) dm (ys.map Value.string) := by
  obtain ⟨_, _, _, _, _, _, h, _⟩ := h; exact h
theorem OwnL.row (h : OwnL w B Wb g n c p l D dm dd ys) : ∃ xs, w.ownsRow B 30 3 (.slice (some ⟨g, 0, none⟩) n c) n xs := by
  obtain ⟨_, h, _⟩ := h; exact ⟨_, h⟩
theorem OwnL.last (h : OwnL w B Wb g n c p l D dm dd ys) (hp : p < n) : w.cell? ⟨g, p * 3 + 1, none⟩ = some (.slice D dm dd) := by
  obtain ⟨raw, h1, h2, _, _, ⟨nm, u, s, hr, _⟩, _⟩ := h
  rw [h1.cellAt (p * 3 + 1) (by omega), flat_get (enc := encP) (k := 3) (fun _ => rfl) raw p 1 _ hr (by omega)]
  rfl
theorem OwnL.name (h : OwnL w B Wb g n c p l D dm dd ys) {i : Nat} (hi : i < n) : ∃ s, l[i]? = some s ∧ w.cell? ⟨g, i * 3, none⟩ = some (.string s.name) := by
  obtain ⟨raw, h1, h2, h3, h4, ⟨nm, u, s, hr, hs, hnm, _⟩, _⟩ := h
  obtain ⟨r, hri⟩ : ∃ r, raw[i]? = some r := ⟨_, List.getElem?_eq_getElem (by omega)⟩
  obtain ⟨t, hti⟩ : ∃ t, l[i]? = some t := ⟨_, List.getElem?_eq_getElem (by omega)⟩
  refine ⟨t, hti, ?_⟩
  have hc := h1.cellAt (i * 3) (by omega)
  have hg := flat_get (enc := encP) (k := 3) (fun _ => rfl) raw i 0 _ hri (by omega)
  rw [Nat.add_zero] at hg
  rw [hc, hg]
  by_cases hip : i = p
  · subst hip
    rw [hr] at hri
    rw [hs] at hti
    cases hri
    cases hti
    simp [encP, hnm]
  · have := (h4 i r t hip hri hti).1.1
    simp [encP, this]
/-- The list of step p is made anew, and is empty. -/
theorem OwnL.start (h : OwnQ w B (some ⟨g, 0, none⟩) n c l) (hp : p < n) (hB : B ≤ w.heap.size) :
    OwnL ((w.setCell ⟨g, p * 3 + 1, none⟩ (.slice (some ⟨w.heap.size, 0, none⟩) 0 0)).alloc (.cells #[] 9)) B w.heap.size g n c p l (some ⟨w.heap.size, 0, none⟩) 0 0 [] := by
  obtain ⟨raw, h1, h2, h3, h4⟩ := h
  obtain ⟨r, hr⟩ : ∃ r, raw[p]? = some r := ⟨_, List.getElem?_eq_getElem (by omega)⟩
  obtain ⟨s, hs⟩ : ∃ s, l[p]? = some s := ⟨_, List.getElem?_eq_getElem (by omega)⟩
  have hst := (h1.stored (p * 3 + 1) (.slice (some ⟨w.heap.size, 0, none⟩) 0 0)).1
  rw [flat_set1 (enc := encP) (fun _ => rfl) (by omega) (a' := ⟨r.name, some ⟨w.heap.size, 0, none⟩, 0, 0, r.undo⟩) raw p r hr rfl] at hst
  have hg := gr_cell w g (p * 3 + 1) (.slice (some ⟨w.heap.size, 0, none⟩) 0 0)
  refine ⟨_, hst.alloc _, by rw [List.length_set]; exact h2, h3, fun j q t hj hq ht => ?_, ⟨r.name, r.undo, s, ?_, hs, (h4 p r s hr hs).1, (h4 p r s hr hs).2.1⟩, ?_, hB⟩
  · rw [List.getElem?_set_ne (fun e => hj e.symm)] at hq
    have ho := h4 j q t hq ht
    refine ⟨⟨ho.1, ho.2.1, (ho.2.2.kept hg (own_ne_own ho.2.2 h1 (by decide))).alloc _⟩, fun z hz => (ho.2.2.lt z hz).2⟩
  · rw [List.getElem?_set_self (by omega)]
  · have := texts_new (w.setCell ⟨g, p * 3 + 1, none⟩ (.slice (some ⟨w.heap.size, 0, none⟩) 0 0))
    rw [show (w.setCell ⟨g, p * 3 + 1, none⟩ (.slice (some ⟨w.heap.size, 0, none⟩) 0 0)).heap.size = w.heap.size by simp [World.setCell]] at this
    exact this
/-- One name more. -/
theorem OwnL.step {D' : Option Addr} {dd' : Nat} {nm : ByteArray} {o : Obj} (h : OwnL w B Wb g n c p l D dm dd ys) (hp : p < n) (hg : (w.alloc o).grownBy w' (Value.slice D dm dd).ownBlock)
    (hn : w'.ownsRow Wb 9 1 (.slice D' (dm + 1) dd') (dm + 1) ((ys ++ [nm]).map Value.string)) :
    OwnL (w'.setCell ⟨g, p * 3 + 1, none⟩ (.slice D' (dm + 1) dd')) B Wb g n c p l D' (dm + 1) dd' (ys ++ [nm]) := by
  obtain ⟨raw, h1, h2, h3, h4, ⟨nm0, u, s, hr, hs, hnm, hu⟩, h5, h6⟩ := h
  have h1' := (h1.alloc o).kept hg (own_ne_own (h1.alloc o) (ownsRow_base (h5.alloc o) h6) (by decide))
  have hst := (h1'.stored (p * 3 + 1) (.slice D' (dm + 1) dd')).1
  rw [flat_set1 (enc := encP) (fun _ => rfl) (by omega) (a' := ⟨nm0, D', dm + 1, dd', u⟩) raw p _ hr rfl] at hst
  have hc := gr_cell w' g (p * 3 + 1) (.slice D' (dm + 1) dd')
  refine ⟨_, hst, by rw [List.length_set]; exact h2, h3, fun j q t hj hq ht => ?_, ⟨nm0, u, s, ?_, hs, hnm, hu⟩, hn.kept hc (own_ne_own (ownsRow_base hn h6) h1' (by decide)), h6⟩
  · rw [List.getElem?_set_ne (fun e => hj e.symm)] at hq
    obtain ⟨ho, hlt⟩ := h4 j q t hj hq ht
    have hne : (Value.slice q.A q.n q.c).ownBlock = none ∨ (Value.slice q.A q.n q.c).ownBlock ≠ (Value.slice D dm dd).ownBlock := by
      rcases hob : (Value.slice q.A q.n q.c).ownBlock with _ | z
      · exact .inl rfl
      · refine .inr fun e => ?_
        have := (h5.lt z e.symm).1
        have := hlt z hob
        omega
    have hk := (ho.2.2.alloc o).kept hg hne
    exact ⟨⟨ho.1, ho.2.1, hk.kept hc (own_ne_own hk h1' (by decide))⟩, hlt⟩
  · rw [List.getElem?_set_self (by omega)]
theorem OwnL.toQ (h : OwnL w B Wb g n c p l D dm dd ys) {s : Stp} (hs : l[p]? = some s) : OwnQ w B (some ⟨g, 0, none⟩) n c (l.set p ⟨s.name, ys, s.undo⟩) := by
  obtain ⟨raw, h1, h2, h3, h4, ⟨nm0, u, s', hr, hs', hnm, hu⟩, h5, h6⟩ := h
  rw [hs] at hs'
  cases hs'
  refine ⟨raw, h1, h2, by rw [List.length_set]; exact h3, fun j q t hq ht => ?_⟩
  by_cases hj : j = p
  · subst hj
    rw [List.getElem?_set_self (by rw [h3, ← h2]; exact (List.getElem?_eq_some_iff.1 hr).1)] at ht
    rw [hr] at hq
    cases hq; cases ht
    exact ⟨hnm, hu, ownsRow_base h5 h6⟩
  · rw [List.getElem?_set_ne (fun e => hj e.symm)] at ht
    exact (h4 j q t hj hq ht).1
end

end Go.Proofs.Ytdchfiiaollheaa
