/- append onto an owned row, the source a slice that reads as a list (nil, empty or not). -/
import Derived.Test.YtdchfiiaollheaaSlices
namespace Go.Proofs.Ytdchfiiaollheaa
open Go.RowKit

section
variable {P : Program} {α : Type} {enc : α → List Value} {w : World}

theorem append_none (base : Nat) (t ty e : TypeId) (i : TypeInfo) (size : Nat) (ht : P.underlying t = some (.slice e)) (hi : P.info? e = some i)
    (v : Value) (n : Nat) (xs : List Value) (hown : w.ownsRow base e size v n xs) (c : Nat) : (Builtin.append_ #[t, t] ty #[v, .slice none 0 c]).run P w = .ok v w := by
  rcases hown.2 with ⟨rfl, rfl⟩ | ⟨g, cap, cur, rfl, _, _, hnc, _⟩
  · simp [Builtin.append_, run_underlying ht, sizeOf, typeInfo, hi, Builtin.lenOf, Builtin.firstCells]
  · simp [Builtin.append_, run_underlying ht, sizeOf, typeInfo, hi, Builtin.lenOf, Builtin.firstCells, hnc, storeCells]

theorem add_addr (b off j : Nat) : (⟨b, off, none⟩ : Addr).add j = ⟨b, off + j, none⟩ := by unfold Addr.add; split <;> simp_all

theorem append_sl (base : Nat) (t ty e : TypeId) (i : TypeInfo) (z : Value) (size bytes : Nat) (ht : P.underlying t = some (.slice e)) (hi : P.info? e = some i) (hz : i.zero = some z)
    (hsize : i.size = size) (hby : i.bytes = bytes) (hzs : z.cells.size = size) (hsz : 0 < size)
    (v : Value) (n : Nat) (xs : List Value) (hown : w.ownsRow base e size v n xs)
    (A : Option Addr) (m c : Nat) (l : List α) (hk : ∀ a, (enc a).length = size) (hs : Sl enc size w A m c l) (h1 : ∀ a, ∀ u ∈ enc a, u.oneCell' = true)
    (h63 : n + m ≤ maxLen) (hbytes : (n + m) * bytes ≤ 140737488355328) (hbase : base ≤ w.heap.size) :
    ∃ v' w', (Builtin.append_ #[t, t] ty #[v, .slice A m c]).run P w = .ok v' w' ∧ w'.ownsRow base e size v' (n + m) (xs ++ l.flatMap enc) ∧ w.grownBy w' v.ownBlock ∧
      (v'.ownBlock = v.ownBlock ∨ v'.ownBlock = some w.heap.size) := by
  rcases A with _ | ad
  · have hm : m = 0 := by
      rcases Nat.eq_zero_or_pos m with h0 | h0
      · exact h0
      · obtain ⟨_, _, h, _⟩ := hs.at_ h0
        cases h
    subst hm
    obtain rfl : l = [] := List.eq_nil_of_length_eq_zero hs.len
    exact ⟨v, w, append_none base t ty e i size ht hi v n xs hown c, by simpa using hown, World.grownBy.refl w _, .inl rfl⟩
  · obtain ⟨v', w', hr, h2, h3, _, h5⟩ := run_append_own_at (P := P) w base t ty e i z size bytes ht hi hz hsize hby hzs hsz v n xs hown ad m c (l.flatMap enc) (by rw [flat_len hk, hs.len]) (fun j u hu => by
        have hjl : j < m * size := by
          have := (List.getElem?_eq_some_iff.1 hu).1
          rw [flat_len hk, hs.len] at this
          exact this
        have hm : 0 < m := by
          rcases Nat.eq_zero_or_pos m with h0 | h0
          · subst h0; simp at hjl
          · exact h0
        obtain ⟨b, off, hA, hc⟩ := hs.at_ hm
        injection hA with hA
        subst hA
        have hi' : j / size < l.length := by rw [hs.len]; exact Nat.div_lt_of_lt_mul (by rw [Nat.mul_comm]; exact hjl)
        have hj' : j % size < size := Nat.mod_lt _ hsz
        have e1 : j / size * size + j % size = j := by rw [Nat.mul_comm]; exact Nat.div_add_mod j size
        have hg := flat_get hk l (j / size) (j % size) _ (List.getElem?_eq_getElem hi') hj'
        rw [e1, hu] at hg
        have := hc (j / size) _ (List.getElem?_eq_getElem hi') (j % size) u hg.symm
        rw [add_addr, ← e1, ← Nat.add_assoc]
        exact this) (fun u hu => by
        obtain ⟨a, _, ha⟩ := List.mem_flatMap.1 hu
        exact h1 a u ha) h63 hbytes hbase
    exact ⟨v', w', hr, h2, h3, h5⟩

theorem wp_append_sl {o : Oper} {a : Act} {K : Act → World → Prop} {Q : Exit → Act → World → Prop} (s x : Operand) (t : TypeId)
    (ho : o.op = .call { callee := .builtin .append, args := #[s, x], argTypes := #[t, t] })
    (base : Nat) (e : TypeId) (i : TypeInfo) (z : Value) (size bytes : Nat) (ht : P.underlying t = some (.slice e)) (hi : P.info? e = some i) (hz : i.zero = some z)
    (hsize : i.size = size) (hby : i.bytes = bytes) (hzs : z.cells.size = size) (hsz : 0 < size)
    (v : Value) (n : Nat) (xs : List Value) (hv : a.eval s = v) (hown : w.ownsRow base e size v n xs)
    (A : Option Addr) (m c : Nat) (l : List α) (hx : a.eval x = .slice A m c) (hk : ∀ a, (enc a).length = size) (hs : Sl enc size w A m c l) (h1 : ∀ a, ∀ u ∈ enc a, u.oneCell' = true)
    (h63 : n + m ≤ maxLen) (hbytes : (n + m) * bytes ≤ 140737488355328) (hbase : base ≤ w.heap.size)
    (h : ∀ v' w', w'.ownsRow base e size v' (n + m) (xs ++ l.flatMap enc) → w.grownBy w' v.ownBlock → (v'.ownBlock = v.ownBlock ∨ v'.ownBlock = some w.heap.size) → K (a.put o.dst v') w') :
    o.wp P a w K Q := by
  obtain ⟨v', w', hr, h2, h3, h4⟩ := append_sl (P := P) base t o.type e i z size bytes ht hi hz hsize hby hzs hsz v n xs hown A m c l hk hs h1 h63 hbytes hbase
  unfold Oper.wp execOp
  simp only [ho, resolve, invoke, builtin, Sem.run_bind, Sem.run_pure, Result.andThen_ok, List.map_toArray, List.map_cons, List.map_nil, hv, hx, hr]
  exact h v' w' h2 h3 h4

theorem wpList_append_sl {ops : Array Oper} {rest : List Oper} {o : Oper} {a : Act} {Q : Exit → Act → World → Prop} (hgd : o.guard = none) (s x : Operand) (t : TypeId)
    (ho : o.op = .call { callee := .builtin .append, args := #[s, x], argTypes := #[t, t] })
    (base : Nat) (e : TypeId) (i : TypeInfo) (z : Value) (size bytes : Nat) (ht : P.underlying t = some (.slice e)) (hi : P.info? e = some i) (hz : i.zero = some z)
    (hsize : i.size = size) (hby : i.bytes = bytes) (hzs : z.cells.size = size) (hsz : 0 < size)
    (v : Value) (n : Nat) (xs : List Value) (hv : a.eval s = v) (hown : w.ownsRow base e size v n xs)
    (A : Option Addr) (m c : Nat) (l : List α) (hx : a.eval x = .slice A m c) (hk : ∀ a, (enc a).length = size) (hs : Sl enc size w A m c l) (h1 : ∀ a, ∀ u ∈ enc a, u.oneCell' = true)
    (h63 : n + m ≤ maxLen) (hbytes : (n + m) * bytes ≤ 140737488355328) (hbase : base ≤ w.heap.size)
    (h : ∀ v' w', w'.ownsRow base e size v' (n + m) (xs ++ l.flatMap enc) → w.grownBy w' v.ownBlock → (v'.ownBlock = v.ownBlock ∨ v'.ownBlock = some w.heap.size) → wpList P ops Q rest (a.put o.dst v') w') :
    wpList P ops Q (o :: rest) a w :=
  wpList_plain hgd fun _ hK => wp_append_sl s x t ho base e i z size bytes ht hi hz hsize hby hzs hsz v n xs hv hown A m c l hx hk hs h1 h63 hbytes hbase fun v' w' h2 h3 h4 => hK _ _ (h v' w' h2 h3 h4)

theorem step_append_sl {ops : Array Oper} {o : Oper} {a : Act} {K : Act → World → Prop} {Q : Exit → Act → World → Prop} {E : Prop} (hgd : o.guard = none) (s x : Operand) (t : TypeId)
    (ho : o.op = .call { callee := .builtin .append, args := #[s, x], argTypes := #[t, t] })
    (base : Nat) (e : TypeId) (i : TypeInfo) (z : Value) (size bytes : Nat) (ht : P.underlying t = some (.slice e)) (hi : P.info? e = some i) (hz : i.zero = some z)
    (hsize : i.size = size) (hby : i.bytes = bytes) (hzs : z.cells.size = size) (hsz : 0 < size)
    (v : Value) (n : Nat) (xs : List Value) (hv : a.eval s = v) (hown : w.ownsRow base e size v n xs)
    (A : Option Addr) (m c : Nat) (l : List α) (hx : a.eval x = .slice A m c) (hk : ∀ a, (enc a).length = size) (hs : Sl enc size w A m c l) (h1 : ∀ a, ∀ u ∈ enc a, u.oneCell' = true)
    (h63 : n + m ≤ maxLen) (hbytes : (n + m) * bytes ≤ 140737488355328) (hbase : base ≤ w.heap.size)
    (h : ∀ v' w', w'.ownsRow base e size v' (n + m) (xs ++ l.flatMap enc) → w.grownBy w' v.ownBlock → (v'.ownBlock = v.ownBlock ∨ v'.ownBlock = some w.heap.size) → K (a.put o.dst v') w') :
    if Region.wanted o (yielded ops a.tmps) = true then Oper.wp P o a w K Q else E := by
  have hw : Region.wanted o (yielded ops a.tmps) = true := by simp [Region.wanted, hgd]
  rw [if_pos hw]
  exact wp_append_sl s x t ho base e i z size bytes ht hi hz hsize hby hzs hsz v n xs hv hown A m c l hx hk hs h1 h63 hbytes hbase h

end

/-- One element in a block of its own. -/
theorem Sl.one {α : Type} {enc : α → List Value} {k : Nat} {w : World} {g : Nat} {t : TypeId} {a : α} (h : Blk w g t (enc a).toArray) : Sl enc k w (some ⟨g, 0, none⟩) 1 1 [a] := by
  refine ⟨rfl, Nat.le_refl _, by omega, fun _ => ⟨g, 0, rfl, fun i x hx j u hu => ?_⟩⟩
  match i, hx with
  | 0, hx =>
    simp at hx
    subst hx
    rw [h.cell]
    simpa using hu
  | i + 1, hx => simp at hx

theorem gr_cell (w : World) (g o : Nat) (v : Value) : w.grownBy (w.setCell ⟨g, o, none⟩ v) (some g) :=
  ⟨rfl, rfl, rfl, by simp [World.setCell], fun k _ hk => heap_setCell_other w ⟨g, o, none⟩ k _ (fun e => hk (by rw [e]))⟩
theorem gr_at {w W : World} {g : Nat} (h : w.grownBy W (some g)) (o : Nat) (v : Value) : w.grownBy (W.setCell ⟨g, o, none⟩ v) (some g) := h.trans (gr_cell W g o v)
theorem gr_drN {w W : World} {r : Option Nat} (h : w.grownBy W r) (q : Nat) : w.grownBy (W.drewN q) r := ⟨h.os, h.tape, h.output, h.size, h.block⟩
theorem gr_dr1 {w W : World} {r : Option Nat} (h : w.grownBy W r) : w.grownBy W.drew r := ⟨h.os, h.tape, h.output, h.size, h.block⟩
theorem gr_below {w W wx : World} {r : Option Nat} (h : w.grownBy W r) (hb : Below W.heap.size W wx) : w.grownBy wx r := h.trans ⟨hb.os, hb.tape, hb.output, hb.size, fun k hk _ => hb.block k hk⟩
theorem first_blk {w w' : World} {g : Nat} {t : TypeId} {cs : Array Value} {row : Option Nat} (h : Blk w g t cs) (hb : w.drew.grownBy w' row) (hg : some g ≠ row) : Blk w' g t cs := (hb.block g h.lt hg).trans h
theorem first_gr {w w' : World} {row : Option Nat} (hb : w.drew.grownBy w' row) : w.grownBy w' row := ⟨hb.os, hb.tape, hb.output, hb.size, hb.block⟩
theorem own_gr {w w' : World} {B : Nat} {e : TypeId} {size : Nat} {v : Value} {n : Nat} {xs : List Value} {R : Nat} (h : w.ownsRow B e size v n xs) (hg : w.grownBy w' (some R)) (hR : R < B) : w'.ownsRow B e size v n xs :=
  h.kept hg (.inr (fun e => by have := (h.lt R e).1; omega))
theorem own_bel {w w' : World} {B : Nat} {e : TypeId} {size : Nat} {v : Value} {n : Nat} {xs : List Value} (h : w.ownsRow B e size v n xs) (hb : Below w.heap.size w w') : w'.ownsRow B e size v n xs :=
  h.kept (row := none) ⟨hb.os, hb.tape, hb.output, hb.size, fun k hk _ => hb.block k hk⟩ (by rcases hv : v.ownBlock with _ | g <;> simp)
/-- Rows of different elements do not lie in one block. -/
theorem own_ne_blk {w : World} {B : Nat} {e : TypeId} {size : Nat} {v : Value} {n : Nat} {xs : List Value} {g : Nat} {t : TypeId} {cs : Array Value} (h : w.ownsRow B e size v n xs) (hg : Blk w g t cs) (hne : e ≠ t) : v.ownBlock ≠ some g := by
  rcases h.2 with ⟨h0, _⟩ | ⟨g', cap, cur, h1, _, hh, _⟩
  · subst h0; simp [Value.ownBlock]
  · subst h1
    intro he
    obtain rfl : g' = g := by simpa [Value.ownBlock] using he
    have hh' := hh.symm.trans hg
    simp at hh'
    exact hne hh'.2
/-- Behind an append onto a row of the call's own, the reader and older blocks are as before. -/
theorem app_blk {w w' : World} {g : Nat} {t : TypeId} {cs : Array Value} {r : Option Nat} {o : Obj} (h : Blk w g t cs) (hg : (w.alloc o).grownBy w' r) (hne : some g ≠ r) : Blk w' g t cs := (h.al o).gr hg hne

end Go.Proofs.Ytdchfiiaollheaa
