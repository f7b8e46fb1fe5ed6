/- Small lemmas on endings, worlds and owned rows, for the walks of this seat. -/
import Derived.Test.YtdchfiiaollheaaRows
import Derived.WalkKit
import Derived.WalkSpells
import Derived.WalkLawsBesides
import Derived.BigQuiet
import Derived.Deep.QuietTactic
import Derived.Deep.AppendLies
import Derived.Deep.Draws
import Derived.Maps.AppendAt
import Derived.Lib.Hide
namespace Go.Proofs.Ytdchfiiaollheaa
open Go.RowKit

theorem ret_int {k : IntKind} {a b : Int} (h : a = b) : Ending.returned (.int k a) = .returned (.int k b) := by rw [h]
theorem ret_bool {a b : Bool} (h : a = b) : Ending.returned (.bool a) = .returned (.bool b) := by rw [h]

theorem cell_some_lt {w : World} {p : Addr} (h : (w.cell? p).isSome = true) : p.block < w.heap.size := by
  obtain ⟨v, hv⟩ := Option.isSome_iff_exists.1 h
  exact World.block_lt_of_cell? w p hv

/-- What could be read is read as before. -/
theorem bcell {B : Nat} {W w1 : World} (hb : Below B W w1) (hB : W.heap.size ≤ B) : (∀ p, (W.cell? p).isSome = true → w1.cell? p = W.cell? p) ∧ (∀ p, (W.cell? p).isSome = true → w1.frozen? p = W.frozen? p) :=
  ⟨fun _ h => hb.cell (Nat.lt_of_lt_of_le (cell_some_lt h) hB), fun _ h => hb.frozen (Nat.lt_of_lt_of_le (cell_some_lt h) hB)⟩

theorem cell_alloc_some (W : World) (o : Obj) (p : Addr) (h : (W.cell? p).isSome = true) : (W.alloc o).cell? p = W.cell? p :=
  World.cell?_alloc_lt W o p (cell_some_lt h)

theorem frozen_alloc_some (W : World) (o : Obj) (p : Addr) (h : (W.cell? p).isSome = true) : (W.alloc o).frozen? p = W.frozen? p :=
  World.frozen?_alloc_old W o p (Nat.ne_of_lt (cell_some_lt h))

attribute [go_sem] cell_alloc_some frozen_alloc_some

section
variable {w W wx : World}
theorem bel_refl (w : World) : Below w.heap.size w w := Below.refl _ _
theorem bel_al (h : Below w.heap.size w W) (o : Obj) : Below w.heap.size w (W.alloc o) := h.alloc h.size o
theorem bel_dr (h : Below w.heap.size w W) : Below w.heap.size w W.drew := h.drew
theorem bel_drN (h : Below w.heap.size w W) (n : Nat) : Below w.heap.size w (W.drewN n) := ⟨h.os, h.tape, h.output, h.size, h.block⟩
theorem bel_nx (h : Below w.heap.size w W) (hb : Below W.heap.size W wx) : Below w.heap.size w wx := h.trans (hb.mono h.size)
theorem bel_set (h : Below w.heap.size w W) {p : Addr} (hp : w.heap.size ≤ p.block) (u : Value) : Below w.heap.size w (W.setCell p u) := h.setCell hp u
end

/-- Behind an append onto an owned row: what lay below the base is as before. -/
theorem below_app {B : Nat} {W wr w1 : World} {e : TypeId} {size n : Nat} {v : Value} {xs : List Value} {o : Obj} (hb : Below B W wr) (hB : B ≤ wr.heap.size) (hown : wr.ownsRow B e size v n xs) (hg : (wr.alloc o).grownBy w1 v.ownBlock) : Below B W w1 :=
  (hb.alloc hB o).grown hg (by simp; omega) (fun j hj => (hown.lt j hj).1)

theorem own_form {w : World} {B : Nat} {e : TypeId} {size : Nat} {v : Value} {n : Nat} {xs : List Value} (h : w.ownsRow B e size v n xs) : ∃ a c, v = .slice a n c := by
  rcases h.2 with ⟨h0, rfl⟩ | ⟨g, cap, cur, h1, _⟩
  · exact ⟨none, 0, h0⟩
  · exact ⟨_, _, h1⟩

theorem ownsRow_base {w : World} {B B' : Nat} {e : TypeId} {size : Nat} {v : Value} {n : Nat} {xs : List Value} (h : w.ownsRow B e size v n xs) (hB : B' ≤ B) : w.ownsRow B' e size v n xs := by
  refine ⟨h.1, ?_⟩
  rcases h.2 with h0 | ⟨g, cap, cur, h1, h2, h3⟩
  · exact .inl h0
  · exact .inr ⟨g, cap, cur, h1, Nat.le_trans hB h2, h3⟩

theorem own_cap {w : World} {B : Nat} {e : TypeId} {size : Nat} {v : Value} {n : Nat} {xs : List Value} (h : w.ownsRow B e size v n xs) : ∃ a c, v = .slice a n c ∧ n ≤ c ∧ c ≤ maxLen := by
  rcases h.2 with ⟨h0, rfl⟩ | ⟨g, cap, cur, h1, _, _, h2, h3, _⟩
  · exact ⟨none, 0, h0, Nat.le_refl _, by unfold maxLen; omega⟩
  · exact ⟨_, _, h1, h2, h3⟩

theorem slice_inj {a a' : Option Addr} {n n' c c' : Nat} (h : Value.slice a n c = .slice a' n' c') : a = a' ∧ n = n' ∧ c = c' := by
  injection h with h1 h2 h3; exact ⟨h1, h2, h3⟩

/-- An owned row of numbers that has an element: where it lies, and that element's cell. -/
theorem own_ints {w : World} {B : Nat} {e : TypeId} {v : Value} {n : Nat} {zs : List Int} {q : IntKind} (h : w.ownsRow B e 1 v n (zs.map (Value.int q))) (k : Nat) (hk : k < n) {z : Int} (hz : zs[k]? = some z) :
    ∃ g cap, v = .slice (some ⟨g, 0, none⟩) n cap ∧ w.cell? ⟨g, k, none⟩ = some (.int q z) := by
  obtain ⟨g, cap, hv, _⟩ := h.form (by omega)
  subst hv
  refine ⟨g, cap, rfl, ?_⟩
  rw [h.cellAt k (by omega), List.getElem?_map, hz]
  rfl

/-- The length of a slice's value, for a loop's measure. -/
def lenOf : Value → Int | .slice _ n _ => n | _ => 0

/-- Block g is known whole: its cells, its elements' type, nothing frozen. -/
def Blk (w : World) (g : Nat) (t : TypeId) (cs : Array Value) : Prop := w.heap[g]? = some (.cells cs t (0, 0))

section
variable {w w' : World} {g : Nat} {t : TypeId} {cs : Array Value}
theorem Blk.lt (h : Blk w g t cs) : g < w.heap.size := (Array.getElem?_eq_some_iff.1 h).1
theorem Blk.cell (h : Blk w g t cs) : ∀ i, w.cell? ⟨g, i, none⟩ = cs[i]? := fun i => cell_of_row w g i cs t (0, 0) h
theorem Blk.frozen (h : Blk w g t cs) : ∀ i, w.frozen? ⟨g, i, none⟩ = false := fun i => frozen_of_row w g i cs t h
theorem Blk.new (w : World) (t : TypeId) (cs : Array Value) : Blk (w.alloc (.cells cs t)) w.heap.size t cs := heap_alloc_new w _
theorem Blk.dr (h : Blk w g t cs) : Blk w.drew g t cs := h
theorem Blk.drN (h : Blk w g t cs) (n : Nat) : Blk (w.drewN n) g t cs := h
theorem Blk.al (h : Blk w g t cs) (o : Obj) : Blk (w.alloc o) g t cs := (Below.heap_alloc w o g h.lt).trans h
theorem Blk.set_ (h : Blk w g t cs) (i : Nat) (u : Value) : Blk (w.setCell ⟨g, i, none⟩ u) g t (cs.setIfInBounds i u) := heap_setCell_same w g i cs t u h
theorem Blk.far (h : Blk w g t cs) {p : Addr} (hp : g ≠ p.block) (u : Value) : Blk (w.setCell p u) g t cs := (Below.heap_setCell w p u g hp).trans h
theorem Blk.bel (h : Blk w g t cs) (hb : Below w.heap.size w w') : Blk w' g t cs := (hb.block g h.lt).trans h
theorem Blk.gr (h : Blk w g t cs) {row : Option Nat} (hb : w.grownBy w' row) (hg : some g ≠ row) : Blk w' g t cs := (hb.block g h.lt hg).trans h
end

theorem min_ite (a b : Int) : min a b = if b < a then b else a := by omega


end Go.Proofs.Ytdchfiiaollheaa
