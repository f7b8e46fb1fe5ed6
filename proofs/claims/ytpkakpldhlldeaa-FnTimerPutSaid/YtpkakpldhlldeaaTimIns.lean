/- A timer put at its place: what TimerPut answers, and the plain laws of it. -/
import Derived.Test.YtpkakpldhlldeaaTimSort
import Derived.Test.YtpkakpldhlldeaaTimPlain2
namespace Go.Proofs.Ytpkakpldhlldeaa

theorem ltT_asymm {a b : R2} (h1 : ltT a b = true) : ltT b a = false := by
  cases h : ltT b a
  · rfl
  · have := ltT_trans _ _ _ h1 h; rw [ltT_irrefl] at this; cases this
/-- A timer at its place. -/
def insT (x : R2) : List R2 → List R2
  | [] => [x]
  | r :: l => if ltT x r = true then x :: r :: l else r :: insT x l

theorem insT_len (x : R2) : ∀ l : List R2, (insT x l).length = l.length + 1
  | [] => rfl
  | r :: l => by unfold insT; split <;> simp [insT_len x l]
theorem insT_mem {x y : R2} : ∀ {l : List R2}, y ∈ insT x l ↔ y = x ∨ y ∈ l
  | [] => by simp [insT]
  | r :: l => by
    unfold insT
    split
    · simp
    · simp [insT_mem (l := l)]
      constructor
      · rintro (h | h | h)
        · exact .inr (.inl h)
        · exact .inl h
        · exact .inr (.inr h)
      · rintro (h | h | h)
        · exact .inr (.inl h)
        · exact .inl h
        · exact .inr (.inr h)
theorem insT_last_lt {x y : R2} (h : ltT x y = true) : ∀ p : List R2, insT x (p ++ [y]) = insT x p ++ [y]
  | [] => by simp [insT, h]
  | r :: p => by
    simp only [List.cons_append, insT]
    split
    · simp
    · rw [insT_last_lt h p]; rfl
theorem insT_end {x : R2} : ∀ {p : List R2}, (∀ r ∈ p, ltT x r = false) → insT x p = p ++ [x]
  | [], _ => rfl
  | r :: p, h => by
    simp only [insT, h r (by simp), List.cons_append]
    rw [insT_end (p := p) (fun q hq => h q (by simp [hq]))]
    simp

/-- The last one is brought to its place. -/
theorem sinkF_ins (x : R2) : ∀ (n : Nat) (p post : List R2), p.length = n → p.Pairwise (fun a b => ltT a b = true) → sinkF n (p ++ x :: post) = insT x p ++ post
  | 0, p, post, hn, _ => by
    obtain rfl := List.eq_nil_of_length_eq_zero hn
    simp [sinkF, insT]
  | n + 1, p, post, hn, hp => by
    have hne : p ≠ [] := by rintro rfl; simp at hn
    obtain ⟨q, y, rfl⟩ : ∃ q y, p = q ++ [y] := ⟨p.dropLast, p.getLast hne, (List.dropLast_concat_getLast hne).symm⟩
    have hq : q.length = n := by simpa using hn
    rw [List.pairwise_append] at hp
    have ha : (q ++ [y] ++ x :: post)[n]? = some y := by
      rw [List.append_assoc, List.getElem?_append_right (by omega), hq]; simp
    have hb : (q ++ [y] ++ x :: post)[n + 1]? = some x := by
      rw [List.append_assoc, List.getElem?_append_right (by omega), hq]; simp
    cases hc : ltT x y
    · rw [sinkF_stay ha hb hc, insT_end]
      · simp
      · intro r hr
        rcases List.mem_append.1 hr with h1 | h1
        · cases hx : ltT x r
          · rfl
          · have := ltT_trans _ _ _ hx (hp.2.2 r h1 y (by simp))
            rw [hc] at this; cases this
        · simp at h1; subst h1; exact hc
    · rw [sinkF_go ha hb hc, insT_last_lt hc]
      have e : ((q ++ [y] ++ x :: post).set (n + 1) y).set n x = q ++ x :: (y :: post) := by
        rw [List.append_assoc, List.set_append_right _ _ (by omega), List.set_append_right _ _ (by omega), hq]
        simp
      rw [e, sinkF_ins x n q (y :: post) hq hp.1]
      simp

theorem sinkF_sorted {l : List R2} {x : R2} (hp : l.Pairwise (fun a b => ltT a b = true)) {i : Nat} (hi : i < l.length) : sinkF i (l ++ [x]) = l ++ [x] := by
  rcases i with _ | p
  · rfl
  · refine sinkF_stay (a := l[p]) (b := l[p + 1]) (by rw [List.getElem?_append_left (by omega)]; exact List.getElem?_eq_getElem _) (by rw [List.getElem?_append_left hi]; exact List.getElem?_eq_getElem _) ?_
    exact ltT_asymm (List.pairwise_iff_getElem.1 hp p (p + 1) (by omega) hi (by omega))

theorem isort_ins {l : List R2} {x : R2} (hp : l.Pairwise (fun a b => ltT a b = true)) : isortF l.length 1 (l ++ [x]) = insT x l := by
  have h : ∀ (f i : Nat), i ≤ l.length → f = l.length + 1 - i → isortF f i (l ++ [x]) = insT x l := by
    intro f
    induction f with
    | zero => intro i hi hf; omega
    | succ f ih =>
      intro i hi hf
      show isortF f (i + 1) (sinkF i (l ++ [x])) = _
      rcases Nat.lt_or_ge i l.length with h | h
      · rw [sinkF_sorted hp h]
        exact ih (i + 1) (by omega) (by omega)
      · obtain rfl : i = l.length := by omega
        obtain rfl : f = 0 := by omega
        rw [isortF, sinkF_ins x l.length l [] rfl hp]
        simp
  rcases Nat.eq_zero_or_pos l.length with h0 | h0
  · obtain rfl := List.eq_nil_of_length_eq_zero h0
    rfl
  · exact h l.length 1 (by omega) (by omega)


theorem insT_mid {x y : R2} (h : ltT x y = true) : ∀ {p : List R2}, (∀ r ∈ p, ltT x r = false) → insT x (p ++ [y]) = p ++ [x, y]
  | [], _ => by simp [insT, h]
  | r :: p, hp => by
    simp only [List.cons_append, insT, hp r (by simp)]
    rw [insT_mid h (p := p) (fun q hq => hp q (by simp [hq]))]
    simp
theorem insT_past {x y : R2} (h : ltT x y = true) (q : List R2) : ∀ {p : List R2}, y ∈ p → insT x (p ++ q) = insT x p ++ q
  | [], hy => by cases hy
  | r :: p, hy => by
    simp only [List.cons_append, insT]
    split
    · rfl
    · rename_i hr
      rcases List.mem_cons.1 hy with rfl | hy
      · exact absurd h hr
      · rw [insT_past h q hy]; rfl
theorem withF_mem {l : List R2} {s : ByteArray} {r : R2} : r ∈ withF l s ↔ r ∈ l ∧ r.2 ≠ s := by simp [withF]
theorem withF_ins {x : R2} {s : ByteArray} (h : x.2 = s) : ∀ (m : List R2), withF (insT x m) s = withF m s
  | [] => by simp [insT, withF, h]
  | r :: m => by
    unfold insT
    split
    · simp [withF, h]
    · have ih := withF_ins h m
      unfold withF at ih ⊢
      by_cases hr : r.2 = s
      · simp [hr, ih]
      · simp [hr, ih]

/-- What TimerPut answers. -/
def putR (l : List R2) (x : R2) : List R2 × Bool := if (timB l && okT x && timB (insT x (withF l x.2))) = true then (insT x (withF l x.2), true) else ([], false)
theorem putR_no1 {l : List R2} {x : R2} (h : timB l = false) : putR l x = ([], false) := by simp [putR, h]
theorem putR_no2 {l : List R2} {x : R2} (h : okT x = false) : putR l x = ([], false) := by simp [putR, h]
theorem putR_no3 {l : List R2} {x : R2} (h : timB (insT x (withF l x.2)) = false) : putR l x = ([], false) := by simp [putR, h]
theorem putR_yes {l : List R2} {x : R2} (h1 : timB l = true) (h2 : okT x = true) (h3 : timB (insT x (withF l x.2)) = true) : putR l x = (insT x (withF l x.2), true) := by simp [putR, h1, h2, h3]
theorem put_ok {l f : List R2} {x : R2} (h : putR l x = (f, true)) : timB l = true ∧ okT x = true ∧ timB f = true ∧ f = insT x (withF l x.2) := by
  cases h1 : timB l
  · rw [putR_no1 h1] at h; cases h
  · cases h2 : okT x
    · rw [putR_no2 h2] at h; cases h
    · cases h3 : timB (insT x (withF l x.2))
      · rw [putR_no3 h3] at h; cases h
      · rw [putR_yes h1 h2 h3] at h
        cases h
        exact ⟨rfl, rfl, h3, rfl⟩
theorem timB_one (r : R2) : timB [r] = okT r := by
  cases h : okT r
  · exact tim_no2 (k := 0) (by simp) (okAt_bad rfl h)
  · exact tim_yes (n := 1) rfl (by omega) (fun j hj => by have e : j = 0 := (by omega); subst e; exact okAt_zero rfl h) (by simp [namesT])
theorem withF_sorted {l : List R2} (s : ByteArray) (h : timB l = true) : (withF l s).Pairwise (fun a b => ltT a b = true) := (timB_ok h).2.sublist List.filter_sublist
theorem put_sort {l : List R2} {x : R2} {n : Nat} (h : timB l = true) (hn : n = (withF l x.2).length) : isortF (n + 1 - 1) 1 (withF l x.2 ++ [x]) = insT x (withF l x.2) := by
  subst hn
  exact isort_ins (withF_sorted _ h)
theorem insT_sz {x : R2} {l : List R2} (hx : x.2.size ≤ 9223372036854775807) (hz : SzT l) : SzT (insT x l) := fun r hr => by
  rcases insT_mem.1 hr with rfl | h1
  · exact hx
  · exact hz r h1
theorem withF_sz {l : List R2} {s : ByteArray} (hz : SzT l) : SzT (withF l s) := fun r hr => hz r (withF_mem.1 hr).1

/-- Where the reference stands when it has passed some timers: whether it has put the new one, and what it has. -/
def putSt (p : List R2) (x : R2) (done : Bool) (out : List R2) : Prop := if done = true then out = insT x p ∧ ∃ y ∈ p, ltT x y = true else out = p ∧ ∀ r ∈ p, ltT x r = false
theorem putSt_start (x : R2) : putSt [] x false [] := by simp [putSt]
theorem putSt_new {p out : List R2} {x y : R2} (h : putSt p x false out) (hy : ltT x y = true) : putSt (p ++ [y]) x true (out ++ [x] ++ [y]) := by
  simp only [putSt, Bool.false_eq_true, if_false] at h
  obtain ⟨rfl, h⟩ := h
  simp only [putSt, if_true]
  exact ⟨by rw [insT_mid hy h]; simp, y, by simp, hy⟩
theorem putSt_pass {p out : List R2} {x y : R2} (h : putSt p x false out) (hy : ltT x y = false) : putSt (p ++ [y]) x false (out ++ [y]) := by
  simp only [putSt, Bool.false_eq_true, if_false] at h ⊢
  obtain ⟨rfl, h⟩ := h
  refine ⟨rfl, fun r hr => ?_⟩
  rcases List.mem_append.1 hr with h1 | h1
  · exact h r h1
  · simp at h1; subst h1; exact hy
theorem putSt_on {p out : List R2} {x y : R2} (h : putSt p x true out) : putSt (p ++ [y]) x true (out ++ [y]) := by
  simp only [putSt, if_true] at h ⊢
  obtain ⟨rfl, z, hz, hlt⟩ := h
  exact ⟨(insT_past hlt [y] hz).symm, z, by simp [hz], hlt⟩
theorem putSt_end1 {p out : List R2} {x : R2} (h : putSt p x false out) : out ++ [x] = insT x p := by
  simp only [putSt, Bool.false_eq_true, if_false] at h
  obtain ⟨rfl, h⟩ := h
  exact (insT_end h).symm
theorem putSt_end2 {p out : List R2} {x : R2} (h : putSt p x true out) : out = insT x p := by
  simp only [putSt, if_true] at h
  exact h.1

theorem put_law {l f : List R2} {x : R2} (h : putR l x = (f, true)) : timB f = true ∧ x ∈ f ∧ withF f x.2 = withF l x.2 ∧ f.length = (withF l x.2).length + 1 ∧ putR f x = (f, true) ∧ dropR f x.2 = (withF l x.2, true) := by
  obtain ⟨h1, h2, h3, rfl⟩ := put_ok h
  have hw : withF (insT x (withF l x.2)) x.2 = withF l x.2 := by rw [withF_ins rfl, withF_twice]
  refine ⟨h3, insT_mem.2 (.inl rfl), hw, insT_len _ _, ?_, ?_⟩
  · have := putR_yes h3 h2 (by rw [hw]; exact h3)
    rw [hw] at this
    exact this
  · rw [dropR_yes h3 (fun e => ?_), hw]
    have := congrArg List.length e
    rw [hw, insT_len] at this
    omega

end Go.Proofs.Ytpkakpldhlldeaa
