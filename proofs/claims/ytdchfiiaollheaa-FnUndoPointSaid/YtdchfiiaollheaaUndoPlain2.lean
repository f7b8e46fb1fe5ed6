/- The first step that can not be undone: plain laws. -/
import Derived.Test.YtdchfiiaollheaaUndoPlain
namespace Go.Proofs.Ytdchfiiaollheaa
open Go.RowKit

theorem below_of_eq {w w' : World} (h : w = w') : Below w.heap.size w w' := by subst h; exact bel_refl _
theorem placeOf_z (A : Option Addr) (n c : Nat) (l : List ByteArray) (s : ByteArray) (z : Int) (w : World) (h : SlS w A n c l) (hz : atS l s = z) : Calls Try.prog 40 #[.slice A n c, .string s] w fun e w' =>
    e = .returned (.int .i64 z) ∧ w = w' := by
  rw [← hz]; exact placeOf_c A n c l s w h
theorem point_full {v : Int} {l : List Stp} {st : Int} {done : List ByteArray} {s : ByteArray} (h : pointP v l st done = s) (hs : s ≠ ⟨#[]⟩) :
    ∃ k : Nat, done[k]? = some s ∧ undoB l s = false ∧ runB v l st done = true ∧ atS done s = (k : Int) ∧ atS (leftP v l st done) s = (k : Int) ∧ ∀ (i : Nat) (t : ByteArray), i ≤ k → done[i]? = some t → findB v l t = true ∧ undoB l t = decide (i < k) := by
  cases hr : runB v l st done
  · rw [pointP_no hr] at h; exact absurd h.symm hs
  obtain ⟨hf, hd, _⟩ := runB_iff.1 hr
  rw [pointP_yes hr] at h
  rcases point_cases (l := l) done with ⟨_, h2⟩ | ⟨k, s', h1, h2, h3, h4⟩
  · rw [h2] at h; exact absurd h.symm hs
  rw [h4] at h
  subst h
  have hne : ∀ (j : Nat) (r : ByteArray), j < k → done[j]? = some r → r ≠ s' := fun j r hj hr e => by
    have := h3 j r hj hr
    rw [e, h2] at this
    cases this
  refine ⟨k, h1, h2, rfl, atS_hit h1 hne, ?_, fun i t hi ht => ⟨find_yes hf (done_names hd _ (List.mem_of_getElem? ht)), ?_⟩⟩
  · have hk := firm_at h1 h2
    by_cases hst : st = 2
    · subst hst
      rw [leftP_all hr]
      exact atS_hit h1 hne
    · rw [leftP_some hr hst]
      refine atS_hit ?_ (fun j r hj hr => hne j r hj ?_)
      · rw [List.getElem?_take, if_pos hk]; exact h1
      · rw [List.getElem?_take, if_pos (by omega)] at hr; exact hr
  · rcases Nat.lt_or_ge i k with q | q
    · rw [h3 i t q ht, decide_eq_true q]
    · have e : i = k := by omega
      subst e
      rw [h1] at ht
      cases ht
      rw [h2, decide_eq_false (by omega)]

end Go.Proofs.Ytdchfiiaollheaa
