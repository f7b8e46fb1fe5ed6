/- Arguments that are a flow or a run read as lists. -/
import Derived.Test.YtdchfiiaollheaaSteps
import Derived.Test.YtdchfiiaollheaaLift
import Derived.Deep.Slices
namespace Go.Proofs.Ytdchfiiaollheaa
open Go.ChangeShapes Go.WideShapes Go.ChangeAt Go.RowKit Go.Joins

theorem some_at {α : Type} {xs : List α} {n : Nat} (h : n < xs.length) : ∃ y, xs[n]? = some y := ⟨_, List.getElem?_eq_getElem h⟩
theorem plus_addr (x : Addr) (hs : x.spot = none) (i : Nat) : x.add i = ⟨x.block, x.off + i, none⟩ := by
  obtain ⟨b, off, spot⟩ := x
  simp only at hs
  subst hs
  unfold Addr.add; split <;> simp_all

set_option maxRecDepth 100000 in
theorem texts_read {H : Type} {enc : TypeId × Value → H} {W : World} {base : Nat} {spare : Nat → Bool} {held : Bool} {n : Nat} {cs : List Value} {y : DataW H × List MemPlace}
    (h : DataW.trod enc Try.prog W base spare held n 28 cs = some y) (hsp : ∀ b, spare b = true) : ∃ (A : Option Addr) (m c : Nat) (l : List ByteArray), cs = [.slice A m c] ∧ SlS W A m c l ∧ SzL l := by
  rcases Deep.open_slice Try.underlying28 h with ⟨hcs, _⟩ | ⟨x, len, cap, m, f, D, Pl, hcs, _, hl, hm, hmm, _, hi⟩
  · exact ⟨none, 0, 0, [], hcs, Sl.nil_ _ _ _, fun s hs => by cases hs⟩
  · rw [hsp, if_pos rfl] at hmm
    rw [show Try.prog.cellsOf 9 = 1 by kernel_rfl] at hi
    unfold maxLen at hm
    have hr : ∀ i, ∃ s : ByteArray, i < len → W.cell? (x.add i) = some (.string s) ∧ s.size ≤ 9223372036854775807 := by
      intro i
      by_cases hin : i < len
      · obtain ⟨cs', hc, ht⟩ := hi i (by omega)
        obtain ⟨s, rfl, _, hs⟩ := DataW.trod_string Try.underlying9 ht
        obtain ⟨_, _, hat⟩ := World.cells?_some hc
        have := hat 0 (by omega)
        rw [Deep.add_add, Nat.mul_one, Nat.add_zero] at this
        unfold maxLen at hs
        exact ⟨s, fun _ => ⟨this, by omega⟩⟩
      · exact ⟨ByteArray.empty, fun h => absurd h hin⟩
    obtain ⟨g, hg⟩ := Classical.axiomOfChoice hr
    refine ⟨some x, len, cap, (List.range len).map g, hcs, ⟨by simp, hl, by omega, fun hn => ?_⟩, fun s hs => ?_⟩
    · have h0 := (hg 0 hn).1
      have hspot : x.spot = none := by
        have := World.cell?_spot h0
        simpa [Addr.add] using this
      refine ⟨x.block, x.off, by obtain ⟨b, o, s⟩ := x; simp only at hspot; subst hspot; rfl, fun i a ha j u hu => ?_⟩
      have hin : i < len := by
        have := (List.getElem?_eq_some_iff.1 ha).1
        simpa using this
      have hfi : a = g i := by
        rw [List.getElem?_map, List.getElem?_range hin] at ha
        simpa using ha.symm
      subst hfi
      have hj : j = 0 := by
        have := (List.getElem?_eq_some_iff.1 hu).1
        simp [encS] at this
        exact this
      subst hj
      have := (hg i hin).1
      rw [plus_addr x hspot] at this
      rw [Nat.mul_one, Nat.add_zero, this]
      simpa [encS] using hu
    · obtain ⟨i, hi', rfl⟩ := List.mem_map.1 hs
      exact (hg i (List.mem_range.1 hi')).2

set_option maxRecDepth 100000 in
theorem step_read {H : Type} {enc : TypeId × Value → H} {W : World} {base : Nat} {spare : Nat → Bool} {held : Bool} {n : Nat} {cs : List Value} {y : DataW H × List MemPlace}
    (h : DataW.trod enc Try.prog W base spare held n 98 cs = some y) (hsp : ∀ b, spare b = true) : ∃ (r : RawP) (s : Stp), cs = encP r ∧ Reads W r s ∧ s.name.size ≤ 9223372036854775807 ∧ SzL s.after := by
  obtain ⟨xs, m, _, _, hl, hx, hf⟩ := DataW.trod_struct Try.underlying98 h
  rw [show Try.prog.cellsOf 98 = 3 by kernel_rfl] at hl
  have c9 : Try.prog.cellsOf 9 = 1 := by kernel_rfl
  have cS : Try.prog.cellsOf 28 = 1 := by kernel_rfl
  have cB : Try.prog.cellsOf 4 = 1 := by kernel_rfl
  have hx : xs.length = 3 := hx
  match cs, hl with
  | [v0, v1, v2], _ =>
    have h0 : DataW.trod enc Try.prog W base spare held m 9 (([v0, v1, v2].drop 0).take (Try.prog.cellsOf 9)) = xs[0]? := hf 0 _ rfl
    have h1 : DataW.trod enc Try.prog W base spare held m 28 (([v0, v1, v2].drop 1).take (Try.prog.cellsOf 28)) = xs[1]? := hf 1 _ rfl
    have h2 : DataW.trod enc Try.prog W base spare held m 4 (([v0, v1, v2].drop 2).take (Try.prog.cellsOf 4)) = xs[2]? := hf 2 _ rfl
    rw [c9] at h0
    rw [cS] at h1
    rw [cB] at h2
    obtain ⟨y0, e0⟩ := some_at (xs := xs) (n := 0) (by omega)
    obtain ⟨y1, e1⟩ := some_at (xs := xs) (n := 1) (by omega)
    obtain ⟨y2, e2⟩ := some_at (xs := xs) (n := 2) (by omega)
    obtain ⟨s, i0, _, hs⟩ := DataW.trod_string Try.underlying9 (h0.trans e0)
    obtain ⟨A, q, c, l, i1, hq, hz⟩ := texts_read (h1.trans e1) hsp
    obtain ⟨u, i2, _⟩ := DataW.trod_bool Try.underlying4 (h2.trans e2)
    simp at i0 i1 i2
    subst i0 i1 i2
    unfold maxLen at hs
    exact ⟨⟨s, A, q, c, u⟩, ⟨s, l, u⟩, rfl, ⟨rfl, rfl, hq⟩, by show s.size ≤ _; omega, hz⟩

set_option maxRecDepth 100000 in
theorem steps_read {H : Type} {enc : TypeId × Value → H} {W : World} {base : Nat} {spare : Nat → Bool} {held : Bool} {n : Nat} {cs : List Value} {y : DataW H × List MemPlace}
    (h : DataW.trod enc Try.prog W base spare held n 32 cs = some y) (hsp : ∀ b, spare b = true) : ∃ (A : Option Addr) (m c : Nat) (l : List Stp), cs = [.slice A m c] ∧ SlP W A m c l ∧ SzP l := by
  rcases Deep.open_slice Try.underlying32 h with ⟨hcs, _⟩ | ⟨x, len, cap, m, f, D, Pl, hcs, _, hl, hm, hmm, _, hi⟩
  · exact ⟨none, 0, 0, [], hcs, SlP.nil_ _, fun s hs => by cases hs⟩
  · rw [hsp, if_pos rfl] at hmm
    rw [show Try.prog.cellsOf 98 = 3 by kernel_rfl] at hi
    unfold maxLen at hm
    have hr : ∀ i, ∃ p : RawP × Stp, i < len → (∀ j u, (encP p.1)[j]? = some u → W.cell? (x.add (i * 3 + j)) = some u) ∧ Reads W p.1 p.2 ∧ p.2.name.size ≤ 9223372036854775807 ∧ SzL p.2.after := by
      intro i
      by_cases hin : i < len
      · obtain ⟨cs', hc, ht⟩ := hi i (by omega)
        obtain ⟨r, s, rfl, hrd, hs1, hs2⟩ := step_read ht hsp
        refine ⟨(r, s), fun _ => ⟨fun j u hu => ?_, hrd, hs1, hs2⟩⟩
        obtain ⟨_, _, hat⟩ := World.cells?_some hc
        have hj : j < 3 := (List.getElem?_eq_some_iff.1 hu).1
        have := hat j hj
        rw [Deep.add_add] at this
        rw [this]
        exact hu
      · exact ⟨(⟨ByteArray.empty, none, 0, 0, false⟩, ⟨ByteArray.empty, [], false⟩), fun h => absurd h hin⟩
    obtain ⟨g, hg⟩ := Classical.axiomOfChoice hr
    refine ⟨some x, len, cap, (List.range len).map (fun i => (g i).2), hcs, ⟨(List.range len).map (fun i => (g i).1), ⟨by simp, hl, by omega, fun hn => ?_⟩, by simp, fun i r s hri hsi => ?_⟩, fun p hp => ?_⟩
    · have h0 := (hg 0 hn).1 0 _ rfl
      have hspot : x.spot = none := by
        have := World.cell?_spot h0
        simpa [Addr.add] using this
      refine ⟨x.block, x.off, by obtain ⟨b, o, s⟩ := x; simp only at hspot; subst hspot; rfl, fun i a ha j u hu => ?_⟩
      have hin : i < len := by
        have := (List.getElem?_eq_some_iff.1 ha).1
        simpa using this
      have hfi : a = (g i).1 := by
        rw [List.getElem?_map, List.getElem?_range hin] at ha
        simpa using ha.symm
      subst hfi
      have := (hg i hin).1 j u hu
      rw [plus_addr x hspot, ← Nat.add_assoc] at this
      exact this
    · have hin : i < len := by
        have := (List.getElem?_eq_some_iff.1 hri).1
        simpa using this
      rw [List.getElem?_map, List.getElem?_range hin] at hri hsi
      simp at hri hsi
      subst hri hsi
      exact (hg i hin).2.1
    · obtain ⟨i, hi', rfl⟩ := List.mem_map.1 hp
      exact (hg i (List.mem_range.1 hi')).2.2

end Go.Proofs.Ytdchfiiaollheaa
