/- Slices of steps: what they hold, read as a list. -/
import Derived.Test.YtdchfiiaollheaaSlices
import Derived.Test.YtdchfiiaollheaaTexts
import Derived.Test.YtdchfiiaollheaaNames
import Derived.Test.YtdchfiiaollheaaMapSet
namespace Go.Proofs.Ytdchfiiaollheaa
open Go.RowKit

/-- A step. -/
structure Stp where
  name : ByteArray
  after : List ByteArray
  undo : Bool
/-- A step as it lies in memory. -/
structure RawP where
  name : ByteArray
  A : Option Addr
  n : Nat
  c : Nat
  undo : Bool
def encP (r : RawP) : List Value := [.string r.name, .slice r.A r.n r.c, .bool r.undo]
theorem encP_len (r : RawP) : (encP r).length = 3 := rfl

/-- A step in memory reads as a step. -/
def Reads (w : World) (r : RawP) (s : Stp) : Prop := r.name = s.name ∧ r.undo = s.undo ∧ SlS w r.A r.n r.c s.after

/-- The slice's value '.slice A n c' reads as a list of steps. -/
def SlP (w : World) (A : Option Addr) (n c : Nat) (l : List Stp) : Prop :=
  ∃ raw : List RawP, Sl encP 3 w A n c raw ∧ l.length = n ∧ ∀ (i : Nat) (r : RawP) (s : Stp), raw[i]? = some r → l[i]? = some s → Reads w r s

section
variable {w w' : World} {A : Option Addr} {n c : Nat} {l : List Stp}
theorem Reads.keep {r : RawP} {s : Stp} (h : Reads w r s) (hk : ∀ p, (w.cell? p).isSome = true → w'.cell? p = w.cell? p) : Reads w' r s := ⟨h.1, h.2.1, h.2.2.keep hk⟩
theorem SlP.keep (h : SlP w A n c l) (hk : ∀ p, (w.cell? p).isSome = true → w'.cell? p = w.cell? p) : SlP w' A n c l := by
  obtain ⟨raw, h1, h2, h3⟩ := h
  exact ⟨raw, h1.keep hk, h2, fun i r s hr hs => (h3 i r s hr hs).keep hk⟩
theorem SlP.bel (h : SlP w A n c l) (hb : Below w.heap.size w w') : SlP w' A n c l := h.keep (bcell hb (Nat.le_refl _)).1
theorem SlP.al (h : SlP w A n c l) (o : Obj) : SlP (w.alloc o) A n c l := h.keep fun p hp => cell_alloc_some w o p hp
theorem SlP.dr (h : SlP w A n c l) : SlP w.drew A n c l := h.keep fun _ _ => rfl
theorem SlP.drN (h : SlP w A n c l) (q : Nat) : SlP (w.drewN q) A n c l := h.keep fun _ _ => rfl
theorem SlP.len (h : SlP w A n c l) : l.length = n := by obtain ⟨_, _, h2, _⟩ := h; exact h2
theorem SlP.cap (h : SlP w A n c l) : n ≤ c := by obtain ⟨_, h1, _⟩ := h; exact h1.cap
theorem SlP.max (h : SlP w A n c l) : c ≤ 9223372036854775807 := by obtain ⟨_, h1, _⟩ := h; exact h1.max
theorem SlP.nil_ (w : World) : SlP w none 0 0 [] := ⟨[], Sl.nil_ _ _ _, rfl, fun i r s h => by simp at h⟩

theorem SlP.get (h : SlP w A n c l) {i : Nat} (hi : i < n) : ∃ b off nm B m d af u, A = some ⟨b, off, none⟩ ∧ l[i]? = some ⟨nm, af, u⟩ ∧
    w.cell? ⟨b, off + i * 3, none⟩ = some (.string nm) ∧ w.cell? ⟨b, off + i * 3 + 1, none⟩ = some (.slice B m d) ∧ w.cell? ⟨b, off + i * 3 + 2, none⟩ = some (.bool u) ∧ SlS w B m d af := by
  obtain ⟨raw, h1, h2, h3⟩ := h
  obtain ⟨b, off, hA, ⟨nm, B, m, d, u⟩, hz, hc⟩ := h1.cell0 hi
  obtain ⟨⟨nm', af, u'⟩, hs⟩ : ∃ s, l[i]? = some s := ⟨_, List.getElem?_eq_getElem (by omega)⟩
  obtain ⟨e1, e2, e3⟩ := h3 i _ _ hz hs
  simp only at e1 e2 e3
  subst e1 e2
  exact ⟨b, off, nm, B, m, d, af, u, hA, hs, hc 0 _ rfl, hc 1 _ rfl, hc 2 _ rfl, e3⟩
end

theorem cell_al {w : World} {p : Addr} {v : Value} (h : w.cell? p = some v) (o : Obj) : (w.alloc o).cell? p = some v := (cell_alloc_some w o p (by rw [h]; rfl)).trans h
theorem cell_on {w w' : World} {p : Addr} {v : Value} (hb : Below w.heap.size w w') (h : w.cell? p = some v) : w'.cell? p = some v :=
  ((bcell hb (Nat.le_refl _)).1 p (by rw [h]; rfl)).trans h

/-- All texts of a flow are short enough. -/
def SzL (l : List ByteArray) : Prop := ∀ s ∈ l, s.size ≤ 9223372036854775807
def SzP (l : List Stp) : Prop := ∀ p ∈ l, p.name.size ≤ 9223372036854775807 ∧ SzL p.after
theorem szP_at {l : List Stp} (hz : SzP l) {k : Nat} {nm : ByteArray} {af : List ByteArray} {u : Bool} (h : l[k]? = some ⟨nm, af, u⟩) : nm.size ≤ 9223372036854775807 ∧ SzL af := hz _ (List.mem_of_getElem? h)
theorem szL_at {l : List ByteArray} (hz : SzL l) {k : Nat} {s : ByteArray} (h : l[k]? = some s) : s.size ≤ 9223372036854775807 := hz _ (List.mem_of_getElem? h)

def namesP (l : List Stp) : List ByteArray := l.map Stp.name
/-- The first place of a text, or -1. -/
def atS (l : List ByteArray) (s : ByteArray) : Int := if l.findIdx (fun t => decide (t = s)) < l.length then (l.findIdx (fun t => decide (t = s)) : Int) else -1
theorem atS_hit {l : List ByteArray} {s : ByteArray} {k : Nat} (hk : l[k]? = some s) (H : ∀ j (r : ByteArray), j < k → l[j]? = some r → r ≠ s) : atS l s = (k : Int) := by
  obtain ⟨hl, he⟩ := List.getElem?_eq_some_iff.1 hk
  have : l.findIdx (fun t => decide (t = s)) = k := by
    rw [List.findIdx_eq hl]
    refine ⟨by rw [he]; simp, fun j hj => ?_⟩
    have := H j l[j] hj (List.getElem?_eq_getElem (by omega))
    simpa using this
  unfold atS
  rw [this, if_pos hl]
theorem atS_miss {l : List ByteArray} {s : ByteArray} (H : ∀ j (r : ByteArray), j < l.length → l[j]? = some r → r ≠ s) : atS l s = -1 := by
  unfold atS
  rw [if_neg]
  intro h
  rw [List.findIdx_lt_length] at h
  obtain ⟨r, hr, he⟩ := h
  obtain ⟨j, hj, rfl⟩ := List.mem_iff_getElem.1 hr
  exact H j _ hj (List.getElem?_eq_getElem hj) (by simpa using he)
theorem atS_cases (l : List ByteArray) (s : ByteArray) : (atS l s = -1 ∧ s ∉ l) ∨ ∃ (k : Nat), atS l s = k ∧ l[k]? = some s ∧ (∀ j (r : ByteArray), j < k → l[j]? = some r → r ≠ s) := by
  by_cases h : l.findIdx (fun t => decide (t = s)) < l.length
  · right
    have hg := List.findIdx_getElem (xs := l) (p := fun t => decide (t = s)) (w := h)
    refine ⟨_, by unfold atS; rw [if_pos h], by rw [List.getElem?_eq_getElem h]; simpa using hg, fun j r hj hjr => ?_⟩
    have := List.not_of_lt_findIdx hj
    obtain ⟨hl, rfl⟩ := List.getElem?_eq_some_iff.1 hjr
    simpa using this
  · left
    refine ⟨by unfold atS; rw [if_neg h], fun hm => h ?_⟩
    rw [List.findIdx_lt_length]
    exact ⟨s, hm, by simp⟩
theorem atS_in (l : List ByteArray) (s : ByteArray) : decide (0 ≤ atS l s) = inB l s := by
  rcases atS_cases l s with ⟨h, hn⟩ | ⟨k, h, hk, _⟩
  · rw [h]
    cases hi : inB l s
    · rfl
    · exact absurd (inB_iff.1 hi) hn
  · rw [h, inB_iff.2 (List.mem_of_getElem? hk)]
    exact decide_eq_true (by omega)
theorem atS_neg (l : List ByteArray) (s : ByteArray) : decide (atS l s < 0) = !inB l s := by
  rw [← atS_in, Bool.eq_iff_iff]
  simp
theorem ne_nextS {l : List ByteArray} {s t : ByteArray} {k : Nat} (hk : l[k]? = some t) (ht : t ≠ s) (H : ∀ j (r : ByteArray), j < k → l[j]? = some r → r ≠ s) : ∀ j (r : ByteArray), j < k + 1 → l[j]? = some r → r ≠ s := fun j r hj hr => by
  rcases Nat.lt_or_ge j k with q | q
  · exact H j r q hr
  · have e : j = k := by omega
    subst e
    rw [hk] at hr
    cases hr
    exact ht
theorem namesP_at {l : List Stp} {k : Nat} {p : Stp} (h : l[k]? = some p) : (namesP l)[k]? = some p.name := by simp [namesP, h]
theorem namesP_take {l : List Stp} {k : Nat} {p : Stp} (h : l[k]? = some p) : namesP (l.take (k + 1)) = namesP (l.take k) ++ [p.name] := by
  unfold namesP; rw [List.take_add_one, h]; simp
theorem take_snocG {α : Type} {l : List α} {k : Nat} {z : α} (h : l[k]? = some z) : l.take (k + 1) = l.take k ++ [z] := by
  rw [List.take_add_one, h]; rfl

/-- All of some texts are in a list. -/
def haveB (l m : List ByteArray) : Bool := m.all (inB l)
theorem haveB_no {l m : List ByteArray} {k : Nat} {s : ByteArray} (h : m[k]? = some s) (hi : inB l s = false) : haveB l m = false := by
  unfold haveB
  rw [List.all_eq_false]
  exact ⟨s, List.mem_of_getElem? h, by simp [hi]⟩
theorem haveB_yes {l m : List ByteArray} {n : Nat} (hn : m.length = n) (h : ∀ j (r : ByteArray), j < n → m[j]? = some r → inB l r = true) : haveB l m = true := by
  unfold haveB
  rw [List.all_eq_true]
  intro r hr
  obtain ⟨j, hj, rfl⟩ := List.mem_iff_getElem.1 hr
  exact h j _ (by omega) (List.getElem?_eq_getElem hj)
theorem allI_next {P : ByteArray → Prop} {l : List ByteArray} {k : Nat} {t : ByteArray} (hk : l[k]? = some t) (ht : P t) (H : ∀ j (r : ByteArray), j < k → l[j]? = some r → P r) : ∀ j (r : ByteArray), j < k + 1 → l[j]? = some r → P r := fun j r hj hr => by
  rcases Nat.lt_or_ge j k with q | q
  · exact H j r q hr
  · have e : j = k := by omega
    subst e
    rw [hk] at hr
    cases hr
    exact ht
/-- The steps that can be done next. -/
def readyP (l : List Stp) (done : List ByteArray) : List ByteArray := (l.filter (fun p => !inB done p.name && haveB done p.after)).map Stp.name
theorem readyP_in {l : List Stp} {done : List ByteArray} {k : Nat} {nm : ByteArray} {af : List ByteArray} {u : Bool} (h : l[k]? = some ⟨nm, af, u⟩) (h1 : inB done nm = false) (h2 : haveB done af = true) : readyP (l.take (k + 1)) done = readyP (l.take k) done ++ [nm] := by
  unfold readyP; rw [List.take_add_one, h]; simp [h1, h2]
theorem readyP_out1 {l : List Stp} {done : List ByteArray} {k : Nat} {nm : ByteArray} {af : List ByteArray} {u : Bool} (h : l[k]? = some ⟨nm, af, u⟩) (h1 : inB done nm = true) : readyP (l.take (k + 1)) done = readyP (l.take k) done := by
  unfold readyP; rw [List.take_add_one, h]; simp [h1]
theorem readyP_out2 {l : List Stp} {done : List ByteArray} {k : Nat} {nm : ByteArray} {af : List ByteArray} {u : Bool} (h : l[k]? = some ⟨nm, af, u⟩) (h2 : haveB done af = false) : readyP (l.take (k + 1)) done = readyP (l.take k) done := by
  unfold readyP; rw [List.take_add_one, h]; simp [h2]

end Go.Proofs.Ytdchfiiaollheaa
