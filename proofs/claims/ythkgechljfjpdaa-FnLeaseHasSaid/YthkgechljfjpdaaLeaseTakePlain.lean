/- What LeaseTake gives, and the plain laws of it. -/
import Derived.Test.YthkgechljfjpdaaLeaseSort
import Derived.Test.YthkgechljfjpdaaLeaseHas
import Derived.Test.YthkgechljfjpdaaLeasesPlain
namespace Go.Proofs.Ythkgechljfjpdaa

/-- A record at its place. -/
def insR (x : R3) : List R3 → List R3
  | [] => [x]
  | r :: l => if ltR x r = true then x :: r :: l else r :: insR x l

theorem insR_len (x : R3) : ∀ l : List R3, (insR x l).length = l.length + 1
  | [] => rfl
  | r :: l => by unfold insR; split <;> simp [insR_len x l]
theorem insR_mem {x y : R3} : ∀ {l : List R3}, y ∈ insR x l ↔ y = x ∨ y ∈ l
  | [] => by simp [insR]
  | r :: l => by
    unfold insR
    split
    · simp
    · simp [insR_mem (l := l)]
      constructor
      · rintro (h | h | h)
        · exact .inr (.inl h)
        · exact .inl h
        · exact .inr (.inr h)
      · rintro (h | h | h)
        · exact .inr (.inl h)
        · exact .inl h
        · exact .inr (.inr h)
theorem insR_last_lt {x y : R3} (h : ltR x y = true) : ∀ p : List R3, insR x (p ++ [y]) = insR x p ++ [y]
  | [] => by simp [insR, h]
  | r :: p => by
    simp only [List.cons_append, insR]
    split
    · simp
    · rw [insR_last_lt h p]; rfl
theorem insR_end {x : R3} : ∀ {p : List R3}, (∀ r ∈ p, ltR x r = false) → insR x p = p ++ [x]
  | [], _ => rfl
  | r :: p, h => by
    simp only [insR, h r (by simp), List.cons_append]
    rw [insR_end (p := p) (fun q hq => h q (by simp [hq]))]
    simp

/-- The last one is brought to its place. -/
theorem sinkF_ins (x : R3) : ∀ (n : Nat) (p post : List R3), p.length = n → p.Pairwise (fun a b => ltR a b = true) → sinkF n (p ++ x :: post) = insR x p ++ post
  | 0, p, post, hn, _ => by
    obtain rfl := List.eq_nil_of_length_eq_zero hn
    simp [sinkF, insR]
  | n + 1, p, post, hn, hp => by
    have hne : p ≠ [] := by rintro rfl; simp at hn
    obtain ⟨q, y, rfl⟩ : ∃ q y, p = q ++ [y] := ⟨p.dropLast, p.getLast hne, (List.dropLast_concat_getLast hne).symm⟩
    have hq : q.length = n := by simpa using hn
    rw [List.pairwise_append] at hp
    have ha : (q ++ [y] ++ x :: post)[n]? = some y := by
      rw [List.append_assoc, List.getElem?_append_right (by omega), hq]; simp
    have hb : (q ++ [y] ++ x :: post)[n + 1]? = some x := by
      rw [List.append_assoc, List.getElem?_append_right (by omega), hq]; simp
    cases hc : ltR x y
    · rw [sinkF_stay ha hb hc, insR_end]
      · simp
      · intro r hr
        rcases List.mem_append.1 hr with h1 | h1
        · cases hx : ltR x r
          · rfl
          · have := ltR_trans _ _ _ hx (hp.2.2 r h1 y (by simp))
            rw [hc] at this; cases this
        · simp at h1; subst h1; exact hc
    · rw [sinkF_go ha hb hc, insR_last_lt hc]
      have e : ((q ++ [y] ++ x :: post).set (n + 1) y).set n x = q ++ x :: (y :: post) := by
        rw [List.append_assoc, List.set_append_right _ _ (by omega), List.set_append_right _ _ (by omega), hq]
        simp
      rw [e, sinkF_ins x n q (y :: post) hq hp.1]
      simp

theorem sinkF_sorted {l : List R3} {x : R3} (hp : l.Pairwise (fun a b => ltR a b = true)) {i : Nat} (hi : i < l.length) : sinkF i (l ++ [x]) = l ++ [x] := by
  rcases i with _ | p
  · rfl
  · refine sinkF_stay (a := l[p]) (b := l[p + 1]) (by rw [List.getElem?_append_left (by omega)]; exact List.getElem?_eq_getElem _) (by rw [List.getElem?_append_left hi]; exact List.getElem?_eq_getElem _) ?_
    exact ltS_asymm (List.pairwise_iff_getElem.1 hp p (p + 1) (by omega) hi (by omega))

theorem isort_ins {l : List R3} {x : R3} (hp : l.Pairwise (fun a b => ltR a b = true)) : isortF l.length 1 (l ++ [x]) = insR x l := by
  have h : ∀ (f i : Nat), i ≤ l.length → f = l.length + 1 - i → isortF f i (l ++ [x]) = insR x l := by
    intro f
    induction f with
    | zero => intro i hi hf; omega
    | succ f ih =>
      intro i hi hf
      show isortF f (i + 1) (sinkF i (l ++ [x])) = _
      rcases Nat.lt_or_ge i l.length with h | h
      · rw [sinkF_sorted hp h]
        exact ih (i + 1) (by omega) (by omega)
      · obtain rfl : i = l.length := by omega
        obtain rfl : f = 0 := by omega
        rw [isortF, sinkF_ins x l.length l [] rfl hp]
        simp
  rcases Nat.eq_zero_or_pos l.length with h0 | h0
  · obtain rfl := List.eq_nil_of_length_eq_zero h0
    rfl
  · exact h l.length 1 (by omega) (by omega)

def inB (n lo hi : Int) : Bool := decide (lo ≤ n) && decide (n ≤ hi)
theorem inB_iff {n lo hi : Int} : inB n lo hi = true ↔ lo ≤ n ∧ n ≤ hi := by unfold inB; rw [Bool.and_eq_true, decide_eq_true_iff, decide_eq_true_iff]
def takeOk (l : List R3) (now : Int) (s : ByteArray) (o span : Int) : Bool := leasesB l && timeB now && nameB s && inB o 1 99 && inB span 1 9999
def takeOut (l : List R3) (now : Int) (s : ByteArray) (o span : Int) : Option (List R3) := match l.find? (fun r => decide (r.1 = s)) with
  | none => some (insR (s, o, now + span) l)
  | some r => if now < r.2.2 then (if r.2.1 = o then some (l.set (atR l s).toNat (s, o, max (now + span) r.2.2)) else none) else some (l.set (atR l s).toNat (s, o, now + span))
def finR (out : List R3) : List R3 × Bool := if leasesB out = true then (out, true) else ([], false)
/-- What LeaseTake gives. -/
def takeR (l : List R3) (now : Int) (s : ByteArray) (o span : Int) : List R3 × Bool := if takeOk l now s o span = true then (match takeOut l now s o span with | some out => finR out | none => ([], false)) else ([], false)

theorem takeR_no {l : List R3} {now : Int} {s : ByteArray} {o span : Int} (h : takeOk l now s o span = false) : takeR l now s o span = ([], false) := by simp [takeR, h]
theorem takeR_new {l : List R3} {now : Int} {s : ByteArray} {o span : Int} (h : takeOk l now s o span = true) (hn : ∀ r ∈ l, r.1 ≠ s) : takeR l now s o span = finR (insR (s, o, now + span) l) := by
  simp [takeR, h, takeOut, find_none hn]
theorem takeR_other {l : List R3} {now : Int} {s : ByteArray} {o span : Int} {k : Nat} {r : R3} (hk : l[k]? = some r) (hr : r.1 = s) (H : ∀ j, j < k → ∀ r, l[j]? = some r → r.1 ≠ s) (h1 : now < r.2.2) (h2 : r.2.1 ≠ o) : takeR l now s o span = ([], false) := by
  simp [takeR, takeOut, find_some hk hr H, h1, h2]
theorem takeR_mine {l : List R3} {now : Int} {s : ByteArray} {o span : Int} (h : takeOk l now s o span = true) {k : Nat} {r : R3} (ha : atR l s = k) (hk : l[k]? = some r) (hr : r.1 = s) (H : ∀ j, j < k → ∀ r, l[j]? = some r → r.1 ≠ s) (h1 : now < r.2.2) (h2 : r.2.1 = o) :
    takeR l now s o span = finR (l.set k (s, o, max (now + span) r.2.2)) := by
  simp [takeR, h, takeOut, find_some hk hr H, h1, h2, ha]
theorem takeR_old {l : List R3} {now : Int} {s : ByteArray} {o span : Int} (h : takeOk l now s o span = true) {k : Nat} {r : R3} (ha : atR l s = k) (hk : l[k]? = some r) (hr : r.1 = s) (H : ∀ j, j < k → ∀ r, l[j]? = some r → r.1 ≠ s) (h1 : ¬ now < r.2.2) :
    takeR l now s o span = finR (l.set k (s, o, now + span)) := by
  simp [takeR, h, takeOut, find_some hk hr H, h1, ha]

theorem takeOk_parts {l : List R3} {now : Int} {s : ByteArray} {o span : Int} (h : takeOk l now s o span = true) : leasesB l = true ∧ timeB now = true ∧ nameB s = true ∧ inB o 1 99 = true ∧ inB span 1 9999 = true := by
  simp [takeOk] at h
  exact ⟨h.1.1.1.1, h.1.1.1.2, h.1.1.2, h.1.2, h.2⟩
theorem leases_pair {l : List R3} (h : leasesB l = true) : l.Pairwise (fun a b => ltR a b = true) := ((okAll_iff ltR_trans l).1 (leasesB_iff.1 h).1).2
theorem leases_len {l : List R3} (h : leasesB l = true) : l.length ≤ 8 := (leasesB_iff.1 h).2

end Go.Proofs.Ythkgechljfjpdaa
