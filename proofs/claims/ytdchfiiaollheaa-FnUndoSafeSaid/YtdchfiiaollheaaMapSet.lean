/- A map of texts that the call makes, kept as the list of the texts that are in it. -/
import Derived.Test.YtdchfiiaollheaaAsc
import Derived.Test.YtdchfiiaollheaaBase
import Derived.Maps.Own
import Derived.Maps.OwnSet
import Derived.Maps.Views
import Derived.WalkSpells
namespace Go.Proofs.Ytdchfiiaollheaa
open Go.RowKit Go.Maps

theorem key_law : Keyed Try.prog 9 := string_keyed Try.underlying9
theorem zero_bool (w : World) : (zeroValue 4).run Try.prog w = .ok (.bool false) w := by kernel_rfl
def litS (s : ByteArray) : Lit := .string s.data.toList
theorem litS_inj {s t : ByteArray} (h : litS s = litS t) : s = t := by
  unfold litS at h
  injection h with h
  exact toList_inj (by rw [Lib.toList_data, Lib.toList_data]; exact h)
theorem key_of (s : ByteArray) (h : s.size ≤ maxLen) : keyOf Try.prog 9 (.string s) = some (litS s) := WideMaps.keyOf_string_mk Try.underlying9 h

/-- A text is among texts. -/
def inB (names : List ByteArray) (s : ByteArray) : Bool := names.any (fun t => decide (t = s))
theorem inB_iff {names : List ByteArray} {s : ByteArray} : inB names s = true ↔ s ∈ names := by
  simp only [inB, List.any_eq_true, decide_eq_true_iff]
  constructor
  · rintro ⟨t, ht, rfl⟩; exact ht
  · intro h; exact ⟨s, h, rfl⟩
theorem inB_no {names : List ByteArray} {s : ByteArray} (h : inB names s = false) : s ∉ names := fun e => by rw [inB_iff.2 e] at h; cases h
theorem inB_snoc (names : List ByteArray) (s t : ByteArray) : inB (names ++ [s]) t = (inB names t || decide (s = t)) := by simp [inB]

/-- Block B is a map in which just the texts of a list are true. -/
def inSet (w : World) (B n : Nat) (names : List ByteArray) : Prop :=
  ∃ D : DataW Unit, w.ownsMap Try.prog 9 (plainElem Try.prog 4) B n D ∧ ∀ s, s.size ≤ maxLen → D.atKey (litS s) (.lit (.bool false)) = .lit (.bool (inB names s))

theorem inSet_made (w : World) : inSet (w.alloc (.map #[] 0)) w.heap.size 0 [] :=
  ⟨_, World.ownsMap_made _ _ _ _, fun _ _ => rfl⟩
theorem inSet.lt {w : World} {B n : Nat} {names : List ByteArray} (h : inSet w B n names) : B < w.heap.size := by obtain ⟨D, h, _⟩ := h; exact h.lt
theorem inSet.kept {w w' : World} {row : Option Nat} {B n : Nat} {names : List ByteArray} (h : inSet w B n names) (hg : w.grownBy w' row) (hne : some B ≠ row) : inSet w' B n names := by
  obtain ⟨D, h, hD⟩ := h
  exact ⟨D, h.kept hg hne, hD⟩
theorem inSet.bel {w w' : World} {B n : Nat} {names : List ByteArray} (h : inSet w B n names) (hb : Below w.heap.size w w') : inSet w' B n names :=
  h.kept (row := none) ⟨hb.os, hb.tape, hb.output, hb.size, fun k hk _ => hb.block k hk⟩ (by simp)
theorem inSet.drew {w : World} {B n : Nat} {names : List ByteArray} (h : inSet w B n names) : inSet w.drew B n names := by
  obtain ⟨D, h, hD⟩ := h
  exact ⟨D, h.drew, hD⟩
theorem inSet.alloc {w : World} {B n : Nat} {names : List ByteArray} (h : inSet w B n names) (o : Obj) : inSet (w.alloc o) B n names := by
  obtain ⟨D, h, hD⟩ := h
  exact ⟨D, h.alloc o, hD⟩

theorem plainElem_bool_inv {H : Type} {P : Program} {e : TypeId} (he : P.underlying e = some .bool) {v : Value} {z : DataW H × List MemPlace} (h : plainElem P e v = some z) : ∃ a, v = .bool a ∧ z = (.lit (.bool a), []) := by
  unfold plainElem at h
  rw [he] at h
  cases v <;> simp at h
  exact ⟨_, rfl, h.symm⟩


set_option maxRecDepth 100000 in
theorem inSet.look {w : World} {B n : Nat} {names : List ByteArray} (h : inSet w B n names) (s : ByteArray) (hs : s.size ≤ maxLen) :
    (Instr.lookup 94 (.map (some B)) (.string s) false).run Try.prog w = .ok (.bool (inB names s)) w := by
  obtain ⟨D, h, hD⟩ := h
  obtain ⟨v, ps, hrun, hv⟩ := h.lookup key_law Try.underlying94 (zero_bool w) (plainElem_bool Try.underlying4 false) (key_of s hs)
  obtain ⟨a, rfl, ha⟩ := plainElem_bool_inv Try.underlying4 hv
  have := (congrArg Prod.fst ha)
  simp only at this
  rw [hD s hs] at this
  injection this with this
  injection this with this
  rw [hrun, ← this]

theorem inSet.put {w : World} {B n : Nat} {names : List ByteArray} (h : inSet w B n names) (s : ByteArray) (hs : s.size ≤ maxLen) (hn : n < maxLen) :
    ∃ w', (Instr.mapUpdate 94 (.map (some B)) (.string s) (.bool true)).run Try.prog w = .ok () w' ∧ inSet w' B (n + 1) (names ++ [s]) ∧ w.grownBy w' (some B) := by
  obtain ⟨D, h, hD⟩ := h
  obtain ⟨w', hrun, h1, h2⟩ := h.update key_law Try.underlying94 hn (key_of s hs) (plainElem_bool Try.underlying4 true)
  refine ⟨w', hrun, ⟨_, h1, fun t ht => ?_⟩, h2⟩
  by_cases he : t = s
  · subst he
    rw [atKey_put_same h.isMap (by trivial), inB_snoc]
    simp
  · rw [atKey_put_other (fun e => he (litS_inj e)), hD t ht, inB_snoc, decide_eq_false (fun e => he e.symm), Bool.or_false]

end Go.Proofs.Ytdchfiiaollheaa
