/- A row of the call's own, known as a whole block: cells written over, append where there is room, clear. -/
import Derived.Test.YtpkakpldhlldeaaAppend
import Derived.Deep.RegionLaw
import Derived.Deep.Upon
import Derived.Lib.SliceRun
namespace Go.Proofs.Ytpkakpldhlldeaa
open Go.RowKit

theorem own_blk {w : World} {B : Nat} {e : TypeId} {k g n c : Nat} {xs : List Value} (h : w.ownsRow B e k (.slice (some ⟨g, 0, none⟩) n c) n xs) :
    ∃ cur : List Value, Blk w g e cur.toArray ∧ B ≤ g ∧ n ≤ c ∧ c ≤ maxLen ∧ cur.length = c * k ∧ cur.take (n * k) = xs := by
  rcases h.2 with ⟨h0, _⟩ | ⟨g', cap, cur, h1, h2, h3, h4, h5, h6, h7⟩
  · cases h0
  · obtain ⟨hA, _, rfl⟩ := slice_inj h1
    cases hA
    exact ⟨cur.toList, h3, h2, h4, h5, by simpa using h6, h7⟩

theorem own_mk {w : World} {B : Nat} {e : TypeId} {k g n c : Nat} {cur xs : List Value} (hb : Blk w g e cur.toArray) (hB : B ≤ g) (hn : n ≤ c) (hc : c ≤ maxLen) (hs : cur.length = c * k) (ht : cur.take (n * k) = xs) (hl : xs.length = n * k) :
    w.ownsRow B e k (.slice (some ⟨g, 0, none⟩) n c) n xs :=
  ⟨hl, .inr ⟨g, c, cur.toArray, rfl, hB, hb, hn, hc, by simpa using hs, by simpa using ht⟩⟩

/-- A list with some elements written over. -/
def putL {α : Type} (cs : List α) (o : Nat) (vs : List α) : List α := cs.take o ++ vs ++ cs.drop (o + vs.length)
theorem putL_len {α : Type} {cs : List α} {o : Nat} {vs : List α} (h : o + vs.length ≤ cs.length) : (putL cs o vs).length = cs.length := by
  simp [putL]; omega
theorem putL_nil {α : Type} (cs : List α) (o : Nat) : putL cs o [] = cs := by simp [putL]
theorem putL_cons {α : Type} (cs : List α) (o : Nat) (v : α) (r : List α) (h : o < cs.length) : putL (cs.set o v) (o + 1) r = putL cs o (v :: r) := by
  unfold putL
  rw [List.take_succ_eq_append_getElem (by simpa using h), List.getElem_set_self, List.take_set_of_le (Nat.le_refl _), List.drop_set_of_lt (by omega)]
  simp [show o + 1 + r.length = o + (r.length + 1) by omega]

theorem Blk.puts {g : Nat} {t : TypeId} : ∀ (vs : List Value) (o : Nat) (w : World) (cs : List Value), o + vs.length ≤ cs.length → Blk w g t cs.toArray → Blk (w.setCells g o vs) g t (putL cs o vs).toArray
  | [], o, w, cs, _, h => by rw [putL_nil]; exact h
  | v :: r, o, w, cs, hl, h => by
    simp at hl
    rw [World.setCells, ← putL_cons cs o v r (by omega)]
    refine Blk.puts r (o + 1) _ _ (by simp; omega) ?_
    have := h.set_ o v
    simpa using this

theorem gr_puts (g : Nat) : ∀ (vs : List Value) (o : Nat) (w : World), w.grownBy (w.setCells g o vs) (some g)
  | [], _, w => World.grownBy.refl w _
  | v :: r, o, w => (gr_cell w g o v).trans (gr_puts g r (o + 1) _)

theorem blk_free {w : World} {g : Nat} {t : TypeId} {cs : List Value} (h : Blk w g t cs.toArray) {o : Nat} (ho : o < cs.length) : (w.cell? ⟨g, o, none⟩).isSome = true ∧ w.frozen? ⟨g, o, none⟩ = false := by
  refine ⟨?_, h.frozen o⟩
  rw [h.cell o]
  simp [ho]

theorem wpList_append_over {P : Program} {w : World} {ops : Array Oper} {rest : List Oper} {o : Oper} {a : Act} {Q : Exit → Act → World → Prop} (hgd : o.guard = none) (s x : Operand) (t : TypeId)
    (ho : o.op = .call { callee := .builtin .append, args := #[s, x], argTypes := #[t, t] })
    (e : TypeId) (i : TypeInfo) (size : Nat) (h1 : P.underlying t = some (.slice e)) (h2 : P.info? e = some i) (h4 : i.size = size)
    (b off n cap : Nat) (hs : a.eval s = .slice (some ⟨b, off, none⟩) n cap)
    (ad : Addr) (m c : Nat) (news : List Value) (hx : a.eval x = .slice (some ad) m c) (hn : news.length = m * size) (hc : ∀ j u, news[j]? = some u → w.cell? (ad.add j) = some u) (h1c : ∀ u ∈ news, u.oneCell' = true)
    (hroom : n + m ≤ cap) (hspare : ∀ j, j < news.length → (w.cell? ⟨b, off + n * size + j, none⟩).isSome = true ∧ w.frozen? ⟨b, off + n * size + j, none⟩ = false)
    (hK : wpList P ops Q rest (a.put o.dst (.slice (some ⟨b, off, none⟩) (n + m) cap)) (w.setCells b (off + n * size) news)) : wpList P ops Q (o :: rest) a w := by
  subst h4
  refine wpList_plain hgd fun K hK' => ?_
  have hrun := run_append_room_cells (P := P) w t o.type e i h1 h2 b off n cap ad m c news hn hc h1c hroom (fun j hj => (hspare j hj).1) (fun j hj => (hspare j hj).2)
  unfold Oper.wp execOp
  simp only [ho, resolve, invoke, builtin, Sem.run_bind, Sem.run_pure, Result.andThen_ok, List.map_toArray, List.map_cons, List.map_nil, hs, hx, hrun]
  exact hK' _ _ hK

/-- 'clear(s)' of n elements, whatever they are. -/
theorem run_clear_cells {P : Program} (w : World) (t e ty : TypeId) (z : Value) (ht : P.underlying t = some (.slice e)) (hv : ∀ w, (zeroValue e).run P w = .ok z w) (h1 : ∀ v ∈ z.cells.toList, v.oneCell' = true) (b o n c : Nat) (hn : 0 < n)
    (hc : ∀ j, j < n * z.cells.size → (w.cell? ⟨b, o + j, none⟩).isSome = true) (hf : ∀ j, j < n * z.cells.size → w.frozen? ⟨b, o + j, none⟩ = false) :
    (Builtin.clear_ #[t] ty #[.slice (some ⟨b, o, none⟩) n c]).run P w = .ok (.tuple #[]) (w.setCells b o (Builtin.zeroCells z.cells n).toList) := by
  have hl : (Builtin.zeroCells z.cells n).toList.length = n * z.cells.size := by simp [Builtin.zeroCells]
  have hone : ∀ v ∈ (Builtin.zeroCells z.cells n).toList, v.oneCell' = true := by
    intro v hv'
    simp [Builtin.zeroCells] at hv'
    obtain ⟨j, hj, rfl⟩ := hv'
    have hpos : 0 < z.cells.size := by
      rcases Nat.eq_zero_or_pos z.cells.size with h0 | h0
      · rw [h0] at hj; omega
      · exact h0
    have hm : j % z.cells.size < z.cells.size := Nat.mod_lt _ hpos
    apply h1
    rw [getElem!_pos z.cells _ hm]
    simp
  have hst := run_storeCells_cells (P := P) b o (Builtin.zeroCells z.cells n).toList 0 w (by rw [hl]; simpa using hc) (by rw [hl]; simpa using hf) hone
  simp only [Nat.add_zero] at hst
  obtain ⟨m, rfl⟩ : ∃ m, n = m + 1 := ⟨n - 1, by omega⟩
  simp [Builtin.clear_, run_underlying ht, hv, hst]

theorem run_clear_none {P : Program} (w : World) (t e ty : TypeId) (ht : P.underlying t = some (.slice e)) (A : Option Addr) (c : Nat) :
    (Builtin.clear_ #[t] ty #[.slice A 0 c]).run P w = .ok (.tuple #[]) w := by
  cases A <;> simp [Builtin.clear_, run_underlying ht]

theorem wpList_clear {P : Program} {w : World} {ops : Array Oper} {rest : List Oper} {o : Oper} {a : Act} {Q : Exit → Act → World → Prop} (hgd : o.guard = none) (s : Operand) (t : TypeId)
    (ho : o.op = .call { callee := .builtin .clear, args := #[s], argTypes := #[t] })
    (v : Value) (hv : a.eval s = v) {w' : World} (hr : (Builtin.clear_ #[t] o.type #[v]).run P w = .ok (.tuple #[]) w')
    (hK : wpList P ops Q rest (a.put o.dst (.tuple #[])) w') : wpList P ops Q (o :: rest) a w := by
  refine wpList_plain hgd fun K hK' => ?_
  unfold Oper.wp execOp
  simp only [ho, resolve, invoke, builtin, Sem.run_bind, Sem.run_pure, Result.andThen_ok, List.map_toArray, List.map_cons, List.map_nil, hv, hr]
  exact hK' _ _ hK

theorem flat_take {α : Type} {enc : α → List Value} {k : Nat} (hk : ∀ a, (enc a).length = k) : ∀ (l : List α) (i : Nat), (l.flatMap enc).take (i * k) = (l.take i).flatMap enc
  | [], i => by simp
  | x :: l, 0 => by simp
  | x :: l, i + 1 => by
    have ha := flat_take hk l i
    rw [List.flatMap_cons, List.take_succ_cons, List.flatMap_cons, ← ha, List.take_append, hk, List.take_of_length_le (by rw [hk, Nat.succ_mul]; omega), show (i + 1) * k - k = i * k by rw [Nat.succ_mul]; omega]

theorem flat_drop {α : Type} {enc : α → List Value} {k : Nat} (hk : ∀ a, (enc a).length = k) : ∀ (l : List α) (i : Nat), (l.flatMap enc).drop (i * k) = (l.drop i).flatMap enc
  | [], i => by simp
  | x :: l, 0 => by simp
  | x :: l, i + 1 => by
    have ha := flat_drop hk l i
    rw [List.flatMap_cons, List.drop_succ_cons, ← ha, List.drop_append, hk, List.drop_eq_nil_of_le (by rw [hk, Nat.succ_mul]; omega), show (i + 1) * k - k = i * k by rw [Nat.succ_mul]; omega, List.nil_append]

theorem take_putL {α : Type} {cs vs : List α} {o : Nat} (h : o ≤ cs.length) : (putL cs o vs).take (o + vs.length) = cs.take o ++ vs := by
  unfold putL
  rw [List.take_append_of_le_length (by simp; omega), List.take_of_length_le (by simp; omega)]
theorem take_putL_lt {α : Type} {cs vs : List α} {o m : Nat} (h : o ≤ cs.length) (hm : m ≤ o) : (putL cs o vs).take m = cs.take m := by
  unfold putL
  rw [List.append_assoc, List.take_append_of_le_length (by simp; omega), List.take_take, Nat.min_eq_left hm]

/-- The cells of a slice, one after the other. -/
theorem Sl.cells {α : Type} {enc : α → List Value} {k : Nat} (hk : ∀ a, (enc a).length = k) (hk0 : 0 < k) {w : World} {A : Option Addr} {n c : Nat} {l : List α} (h : Sl enc k w A n c l) {ad : Addr} (hA : A = some ad) :
    ∀ j u, (l.flatMap enc)[j]? = some u → w.cell? (ad.add j) = some u := by
  subst hA
  intro j u hu
  have hj : j < n * k := by
    have := (List.getElem?_eq_some_iff.1 hu).1
    rwa [flat_len hk, h.len] at this
  have hn : 0 < n := by
    rcases Nat.eq_zero_or_pos n with h0 | h0
    · subst h0; simp at hj
    · exact h0
  obtain ⟨b, off, hA, hc⟩ := h.at_ hn
  cases hA
  have hq : j / k < l.length := by rw [h.len]; exact Nat.div_lt_of_lt_mul (by rw [Nat.mul_comm]; exact hj)
  have e1 : j / k * k + j % k = j := by rw [Nat.mul_comm]; exact Nat.div_add_mod j k
  have hg := flat_get hk l (j / k) (j % k) _ (List.getElem?_eq_getElem hq) (Nat.mod_lt _ hk0)
  rw [e1, hu] at hg
  have := hc (j / k) _ (List.getElem?_eq_getElem hq) (j % k) u hg.symm
  rw [add_addr, ← e1, ← Nat.add_assoc]
  exact this

end Go.Proofs.Ytpkakpldhlldeaa
