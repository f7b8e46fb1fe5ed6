/- An argument that is a slice of timers reads as a list. -/
import Derived.Test.YtpkakpldhlldeaaTims
import Derived.Test.YtpkakpldhlldeaaLift
import Derived.Deep.Slices
namespace Go.Proofs.Ytpkakpldhlldeaa
open Go.ChangeShapes Go.WideShapes Go.ChangeAt Go.RowKit Go.Joins

theorem some_at {α : Type} {xs : List α} {n : Nat} (h : n < xs.length) : ∃ y, xs[n]? = some y := ⟨_, List.getElem?_eq_getElem h⟩

theorem tim_read {H : Type} {enc : TypeId × Value → H} {W : World} {base : Nat} {spare : Nat → Bool} {held : Bool} {n : Nat} {cs : List Value} {y : DataW H × List MemPlace}
    (h : DataW.trod enc Try.prog W base spare held n 34 cs = some y) : ∃ (a : Int) (s : ByteArray), cs = [.int .i64 a, .string s] ∧ s.size ≤ 9223372036854775807 := by
  obtain ⟨xs, m, _, _, hl, hx, hf⟩ := DataW.trod_struct Try.underlying34 h
  rw [show Try.prog.cellsOf 34 = 2 by kernel_rfl] at hl
  have c3 : Try.prog.cellsOf 3 = 1 := by kernel_rfl
  have c9 : Try.prog.cellsOf 9 = 1 := by kernel_rfl
  have hx : xs.length = 2 := hx
  match cs, hl with
  | [v0, v1], _ =>
    have h0 : DataW.trod enc Try.prog W base spare held m 3 (([v0, v1].drop 0).take (Try.prog.cellsOf 3)) = xs[0]? := hf 0 _ rfl
    have h1 : DataW.trod enc Try.prog W base spare held m 9 (([v0, v1].drop 1).take (Try.prog.cellsOf 9)) = xs[1]? := hf 1 _ rfl
    rw [c3] at h0
    rw [c9] at h1
    obtain ⟨y0, e0⟩ := some_at (xs := xs) (n := 0) (by omega)
    obtain ⟨y1, e1⟩ := some_at (xs := xs) (n := 1) (by omega)
    obtain ⟨a, i0, _, _⟩ := DataW.trod_int Try.underlying3 (h0.trans e0)
    obtain ⟨s, i1, _, hs⟩ := DataW.trod_string Try.underlying9 (h1.trans e1)
    simp at i0 i1
    subst i0 i1
    unfold maxLen at hs
    exact ⟨a, s, rfl, by omega⟩

theorem tims_row {H : Type} {enc : TypeId × Value → H} {W : World} {base : Nat} {spare : Nat → Bool} {held : Bool} {A : Option Addr} {n c : Nat} {d : DataW H} {p : List MemPlace}
    (h : DataW.Trod enc Try.prog W base spare held 33 (.slice A n c) d p) (hsp : ∀ b, spare b = true) : ∃ l, SlT W A n c l ∧ SzT l := by
  obtain ⟨fuel, hf⟩ := h
  rcases Deep.open_slice Try.underlying33 hf with ⟨hcs, _⟩ | ⟨x, len, cap, m, f, D, Pl, hcs, _, hl, hm, hmm, _, hi⟩
  · simp [Value.cells] at hcs
    obtain ⟨rfl, rfl, rfl⟩ := hcs
    exact ⟨[], Sl.nil_ _ _ _, fun r hr => by cases hr⟩
  · simp [Value.cells] at hcs
    obtain ⟨rfl, rfl, rfl⟩ := hcs
    rw [hsp, if_pos rfl] at hmm
    rw [show Try.prog.cellsOf 34 = 2 by kernel_rfl] at hi
    unfold maxLen at hm
    have hr : ∀ i, ∃ r : R2, i < n → (∀ j u, (encT r)[j]? = some u → W.cell? (x.add (i * 2 + j)) = some u) ∧ r.2.size ≤ 9223372036854775807 := by
      intro i
      by_cases hin : i < n
      · obtain ⟨cs', hc, ht⟩ := hi i (by omega)
        obtain ⟨a, s, rfl, hs⟩ := tim_read ht
        refine ⟨(a, s), fun _ => ⟨fun j u hu => ?_, hs⟩⟩
        obtain ⟨_, _, hat⟩ := World.cells?_some hc
        have hj : j < 2 := (List.getElem?_eq_some_iff.1 hu).1
        have := hat j hj
        rw [Deep.add_add] at this
        rw [this]
        exact hu
      · exact ⟨(0, ByteArray.empty), fun h => absurd h hin⟩
    obtain ⟨f, hf⟩ := Classical.axiomOfChoice hr
    refine ⟨(List.range n).map f, ⟨by simp, hl, by omega, fun hn => ?_⟩, fun r hr => ?_⟩
    · have h0 := (hf 0 hn).1 0 _ rfl
      obtain ⟨b, off, spot⟩ := x
      have hspot : spot = none := by simpa [Addr.add] using World.cell?_spot h0
      subst hspot
      have hadd : ∀ i, (⟨b, off, none⟩ : Addr).add i = ⟨b, off + i, none⟩ := fun i => by unfold Addr.add; split <;> simp_all
      refine ⟨b, off, rfl, fun i a ha j u hu => ?_⟩
      have hin : i < n := by
        have := (List.getElem?_eq_some_iff.1 ha).1
        simpa using this
      have hfi : a = f i := by
        rw [List.getElem?_map, List.getElem?_range hin] at ha
        simpa using ha.symm
      subst hfi
      have := (hf i hin).1 j u hu
      rw [hadd, ← Nat.add_assoc] at this
      exact this
    · obtain ⟨i, hi', rfl⟩ := List.mem_map.1 hr
      exact (hf i (List.mem_range.1 hi')).2

end Go.Proofs.Ytpkakpldhlldeaa
