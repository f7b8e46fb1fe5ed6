/- Inboxes in plain lists: taking a message, and what an inbox holds. No program is in sight here. -/
import Derived.Test.YtdcojlbekpcejaaInboxWaits
namespace Go.Proofs.Ytdcojlbekpcejaa

theorem inb_iff {a : Int} {l : List Int} : inbB a l = true ↔ 0 ≤ a ∧ a ≤ 999 ∧ l.length ≤ 6 ∧ (∀ z ∈ l, a + 2 ≤ z ∧ z ≤ 999) ∧ l.Pairwise (· < ·) := by
  simp only [inbB, Bool.and_eq_true, decide_eq_true_eq, okAll_iff ltZ_trans, okN, ltZ]
  constructor
  · rintro ⟨⟨⟨h1, h2⟩, h3⟩, h4, h5⟩; exact ⟨h1, h2, h3, h4, h5⟩
  · rintro ⟨h1, h2, h3, h4, h5⟩; exact ⟨⟨⟨h1, h2⟩, h3⟩, h4, h5⟩
theorem has_iff {a x : Int} {l : List Int} : hasB a l x = true ↔ x ≤ a ∨ x ∈ l := by simp [hasB]
theorem has_not {a x : Int} {l : List Int} : hasB a l x = false ↔ ¬ (x ≤ a ∨ x ∈ l) := by simp [hasB]

/-- An ascending list with one number more. -/
def putZ : List Int → Int → List Int
  | [], x => [x]
  | y :: r, x => if x < y then x :: y :: r else y :: putZ r x
/-- Numbers that follow on the count are counted. -/
def absorb : Int → List Int → Int × List Int
  | a, [] => (a, [])
  | a, y :: r => if y = a + 1 then absorb (a + 1) r else (a, y :: r)
/-- What InboxTake answers. -/
def takeF (a : Int) (l : List Int) (x : Int) : Int × List Int × Bool × Bool :=
  if (inbB a l && decide (1 ≤ x ∧ x ≤ 999)) = true then
    if hasB a l x = true then (a, l, false, true)
    else if inbB (absorb a (putZ l x)).1 (absorb a (putZ l x)).2 = true then ((absorb a (putZ l x)).1, (absorb a (putZ l x)).2, true, true) else (0, [], false, false)
  else (0, [], false, false)

theorem mem_put {x z : Int} : ∀ {l : List Int}, z ∈ putZ l x ↔ z = x ∨ z ∈ l
  | [] => by simp [putZ]
  | y :: r => by
    unfold putZ
    split
    · simp
    · simp only [List.mem_cons, mem_put (l := r)]
      constructor
      · rintro (h | h | h) <;> simp [h]
      · rintro (h | h | h) <;> simp [h]
theorem put_len (x : Int) : ∀ l : List Int, (putZ l x).length = l.length + 1
  | [] => rfl
  | y :: r => by
    unfold putZ
    split
    · simp
    · simp [put_len x r]
theorem put_pw {x : Int} : ∀ {l : List Int}, l.Pairwise (· < ·) → x ∉ l → (putZ l x).Pairwise (· < ·)
  | [], _, _ => by simp [putZ]
  | y :: r, h, hx => by
    obtain ⟨h1, h2⟩ := List.pairwise_cons.1 h
    unfold putZ
    split
    · rename_i hlt
      refine List.pairwise_cons.2 ⟨fun z hz => ?_, h⟩
      rcases List.mem_cons.1 hz with rfl | hz
      · exact hlt
      · exact Int.lt_trans hlt (h1 z hz)
    · rename_i hlt
      refine List.pairwise_cons.2 ⟨fun z hz => ?_, put_pw h2 (fun e => hx (List.mem_cons_of_mem _ e))⟩
      rcases mem_put.1 hz with rfl | hz
      · have : z ≠ y := fun e => hx (by simp [e])
        omega
      · exact h1 z hz
theorem put_low {x : Int} : ∀ {l : List Int}, (∀ z ∈ l, x < z) → putZ l x = x :: l
  | [], _ => rfl
  | y :: r, h => by
    unfold putZ
    rw [if_pos (h y (by simp))]
theorem put_app {x y : Int} (h : ¬ x < y) : ∀ (l : List Int), (∀ z ∈ l, ¬ x < z) → putZ (l ++ [y]) x = l ++ [y, x]
  | [], _ => by simp [putZ, h]
  | z :: r, hl => by
    simp only [List.cons_append, putZ, if_neg (hl z (by simp))]
    rw [put_app h r (fun u hu => hl u (by simp [hu]))]

theorem put_eq {x : Int} : ∀ {l : List Int}, l.Pairwise (· < ·) → x ∉ l → l.take (l.countP (· < x)) ++ x :: l.drop (l.countP (· < x)) = putZ l x
  | [], _, _ => by simp [putZ]
  | y :: r, h, hx => by
    obtain ⟨h1, h2⟩ := List.pairwise_cons.1 h
    have hy : x ≠ y := fun e => hx (by simp [e])
    by_cases hlt : y < x
    · have hc : (y :: r).countP (· < x) = r.countP (· < x) + 1 := by rw [List.countP_cons_of_pos (by simpa using hlt)]
      rw [hc, List.take_succ_cons, List.drop_succ_cons, List.cons_append, put_eq h2 (fun e => hx (List.mem_cons_of_mem _ e))]
      simp only [putZ]
      rw [if_neg (by omega)]
    · have hc : (y :: r).countP (· < x) = 0 := by
        rw [List.countP_eq_zero]
        intro z hz
        rcases List.mem_cons.1 hz with rfl | hz
        · simpa using hlt
        · have := h1 z hz
          simp; omega
      rw [hc]
      simp only [List.take_zero, List.drop_zero, List.nil_append, putZ]
      rw [if_pos (by omega)]
theorem absorb_stop {a y : Int} {r : List Int} (h : y ≠ a + 1) : absorb a (y :: r) = (a, y :: r) := by simp [absorb, h]
theorem absorb_go {a y : Int} {r : List Int} (h : y = a + 1) : absorb a (y :: r) = absorb (a + 1) r := by simp [absorb, h]
theorem absorb_has {m : Int} : ∀ {l : List Int} {a : Int}, (m ≤ (absorb a l).1 ∨ m ∈ (absorb a l).2) ↔ (m ≤ a ∨ m ∈ l)
  | [], a => by simp [absorb]
  | y :: r, a => by
    unfold absorb
    split
    · rename_i hy
      rw [absorb_has (l := r), List.mem_cons]
      subst hy
      constructor
      · rintro (h | h)
        · by_cases h0 : m ≤ a
          · exact .inl h0
          · exact .inr (.inl (by omega))
        · exact .inr (.inr h)
      · rintro (h | h | h)
        · exact .inl (by omega)
        · exact .inl (by omega)
        · exact .inr h
    · exact Iff.rfl
theorem absorb_len : ∀ (l : List Int) (a : Int), (absorb a l).2.length ≤ l.length
  | [], a => by simp [absorb]
  | y :: r, a => by
    unfold absorb
    split
    · have := absorb_len r (a + 1); simp; omega
    · simp
theorem absorb_ge : ∀ (l : List Int) (a : Int), a ≤ (absorb a l).1
  | [], a => by simp [absorb]
  | y :: r, a => by
    unfold absorb
    split
    · have := absorb_ge r (a + 1); omega
    · simp
theorem absorb_le : ∀ {l : List Int} {a : Int}, a ≤ 999 → (∀ z ∈ l, z ≤ 999) → (absorb a l).1 ≤ 999
  | [], a, h, _ => by simpa [absorb] using h
  | y :: r, a, h, hl => by
    unfold absorb
    split
    · rename_i hy
      exact absorb_le (by have := hl y (by simp); omega) (fun z hz => hl z (by simp [hz]))
    · exact h
theorem absorb_sub : ∀ (l : List Int) (a : Int), (absorb a l).2.Sublist l
  | [], a => by simp [absorb]
  | y :: r, a => by
    unfold absorb
    split
    · exact (absorb_sub r (a + 1)).trans (List.sublist_cons_self _ _)
    · exact List.Sublist.refl _
theorem absorb_gap : ∀ {l : List Int} {a : Int}, l.Pairwise (· < ·) → (∀ z ∈ l, a < z) → ∀ z ∈ (absorb a l).2, (absorb a l).1 + 2 ≤ z
  | [], a, _, _ => by simp [absorb]
  | y :: r, a, hp, hl => by
    obtain ⟨h1, h2⟩ := List.pairwise_cons.1 hp
    unfold absorb
    split
    · rename_i hy
      subst hy
      exact absorb_gap h2 (fun z hz => h1 z hz)
    · rename_i hy
      intro z hz
      have hy2 := hl y (by simp)
      rcases List.mem_cons.1 hz with rfl | hz
      · show a + 2 ≤ z; omega
      · have := h1 z hz; show a + 2 ≤ z; omega

/-- What stays when numbers are counted is as it should be, but for the length. -/
theorem absorb_inb {a : Int} {l : List Int} (h0 : 0 ≤ a) (h1 : a ≤ 999) (hp : l.Pairwise (· < ·)) (hl : ∀ z ∈ l, a < z ∧ z ≤ 999) (hn : (absorb a l).2.length ≤ 6) : inbB (absorb a l).1 (absorb a l).2 = true := by
  refine inb_iff.2 ⟨Int.le_trans h0 (absorb_ge l a), absorb_le h1 (fun z hz => (hl z hz).2), hn, fun z hz => ⟨absorb_gap hp (fun z hz => (hl z hz).1) z hz, (hl z ((absorb_sub l a).subset hz)).2⟩, hp.sublist (absorb_sub l a)⟩

theorem sorted_eq : ∀ {l m : List Int}, l.Pairwise (· < ·) → m.Pairwise (· < ·) → (∀ z, z ∈ l ↔ z ∈ m) → l = m
  | [], [], _, _, _ => rfl
  | [], y :: m, _, _, h => by have := (h y).2 (by simp); simp at this
  | x :: l, [], _, _, h => by have := (h x).1 (by simp); simp at this
  | x :: l, y :: m, hl, hm, h => by
    obtain ⟨l1, l2⟩ := List.pairwise_cons.1 hl
    obtain ⟨m1, m2⟩ := List.pairwise_cons.1 hm
    have hxy : x = y := by
      rcases List.mem_cons.1 ((h x).1 (by simp)) with e | e
      · exact e
      · rcases List.mem_cons.1 ((h y).2 (by simp)) with e' | e'
        · exact e'.symm
        · have := m1 x e; have := l1 y e'; omega
    subst hxy
    rw [sorted_eq l2 m2 (fun z => ?_)]
    constructor
    · intro hz
      rcases List.mem_cons.1 ((h z).1 (by simp [hz])) with e | e
      · have := l1 z hz; omega
      · exact e
    · intro hz
      rcases List.mem_cons.1 ((h z).2 (by simp [hz])) with e | e
      · have := m1 z hz; omega
      · exact e

/-- Two valid inboxes that hold the same messages are equal. -/
theorem canon {a b : Int} {l m : List Int} (ha : inbB a l = true) (hb : inbB b m = true) (h : ∀ z, 1 ≤ z → hasB a l z = hasB b m z) : a = b ∧ l = m := by
  obtain ⟨a0, a1, a2, a3, a4⟩ := inb_iff.1 ha
  obtain ⟨b0, b1, b2, b3, b4⟩ := inb_iff.1 hb
  have next : ∀ {c : Int} {k : List Int}, (∀ z ∈ k, c + 2 ≤ z ∧ z ≤ 999) → hasB c k (c + 1) = false := fun {c k} hk => has_not.2 (by rintro (h | h); exact absurd h (by omega); have := (hk _ h).1; omega)
  have hab : a = b := by
    rcases Int.lt_trichotomy a b with h1 | h1 | h1
    · have e1 := h (a + 1) (by omega)
      rw [next a3] at e1
      have e2 : hasB b m (a + 1) = true := has_iff.2 (.inl (by omega))
      rw [e2] at e1; cases e1
    · exact h1
    · have e1 := h (b + 1) (by omega)
      rw [next b3] at e1
      have e2 : hasB a l (b + 1) = true := has_iff.2 (.inl (by omega))
      rw [e2] at e1; cases e1
  subst hab
  refine ⟨rfl, sorted_eq a4 b4 (fun z => ?_)⟩
  constructor
  · intro hz
    have hz2 := a3 z hz
    have e := h z (by omega)
    rw [has_iff.2 (.inr hz)] at e
    rcases has_iff.1 e.symm with h | h
    · omega
    · exact h
  · intro hz
    have hz2 := b3 z hz
    have e := h z (by omega)
    rw [has_iff.2 (.inr hz)] at e
    rcases has_iff.1 e with h | h
    · omega
    · exact h

theorem takeF_no1 {a x : Int} {l : List Int} (h : inbB a l = false) : takeF a l x = (0, [], false, false) := by simp [takeF, h]
theorem takeF_no2 {a x : Int} {l : List Int} (h : ¬ (1 ≤ x ∧ x ≤ 999)) : takeF a l x = (0, [], false, false) := by
  unfold takeF
  rw [decide_eq_false h]
  simp
theorem takeF_has {a x : Int} {l : List Int} (h : inbB a l = true) (hx : 1 ≤ x ∧ x ≤ 999) (hh : hasB a l x = true) : takeF a l x = (a, l, false, true) := by
  unfold takeF
  rw [decide_eq_true hx, h, hh]
  simp
theorem takeF_new {a x : Int} {l : List Int} (h : inbB a l = true) (hx : 1 ≤ x ∧ x ≤ 999) (hh : hasB a l x = false) {b : Int} {m : List Int} (hab : absorb a (putZ l x) = (b, m)) : takeF a l x = if inbB b m = true then (b, m, true, true) else (0, [], false, false) := by
  unfold takeF
  rw [decide_eq_true hx, h, hh, hab]
  simp

/-- What a message that was taken leaves. -/
theorem take_ok {a x b : Int} {l m : List Int} {f : Bool} (h : takeF a l x = (b, m, f, true)) : inbB a l = true ∧ 1 ≤ x ∧ x ≤ 999 ∧ inbB b m = true ∧ f = !hasB a l x ∧ ∀ z, hasB b m z = (hasB a l z || decide (z = x)) := by
  by_cases hv : inbB a l = true
  · by_cases hx : 1 ≤ x ∧ x ≤ 999
    · cases hh : hasB a l x
      · rw [takeF_new hv hx hh rfl] at h
        split at h
        · rename_i hok
          injection h with e1 e2
          injection e2 with e2 e3
          injection e3 with e3 _
          subst e1 e2 e3
          refine ⟨hv, hx.1, hx.2, hok, rfl, fun z => ?_⟩
          rw [Bool.eq_iff_iff, Bool.or_eq_true, has_iff, has_iff, decide_eq_true_iff, absorb_has, mem_put]
          constructor
          · rintro (h | h | h)
            · exact .inl (.inl h)
            · exact .inr h
            · exact .inl (.inr h)
          · rintro ((h | h) | h)
            · exact .inl h
            · exact .inr (.inr h)
            · exact .inr (.inl h)
        · injection h with e1 e2
          injection e2 with e2 e3
          injection e3 with e3 e4
          cases e4
      · rw [takeF_has hv hx hh] at h
        injection h with e1 e2
        injection e2 with e2 e3
        injection e3 with e3 _
        subst e1 e2 e3
        refine ⟨hv, hx.1, hx.2, hv, rfl, fun z => ?_⟩
        rw [Bool.eq_iff_iff, Bool.or_eq_true, decide_eq_true_iff]
        constructor
        · exact .inl
        · rintro (h | rfl)
          · exact h
          · exact hh
    · rw [takeF_no2 hx] at h
      injection h with e1 e2
      injection e2 with e2 e3
      injection e3 with e3 e4
      cases e4
  · rw [takeF_no1 (by simpa using hv)] at h
    injection h with e1 e2
    injection e2 with e2 e3
    injection e3 with e3 e4
    cases e4

/-- The next message is always taken. -/
theorem take_next {a : Int} {l : List Int} (h : inbB a l = true) (ha : a + 1 ≤ 999) : ∃ b m, takeF a l (a + 1) = (b, m, true, true) ∧ a + 1 ≤ b ∧ m.length ≤ l.length := by
  obtain ⟨a0, a1, a2, a3, a4⟩ := inb_iff.1 h
  have hn : hasB a l (a + 1) = false := has_not.2 (by rintro (h | h); exact absurd h (by omega); have := (a3 _ h).1; omega)
  have hp : putZ l (a + 1) = (a + 1) :: l := put_low (fun z hz => by have := (a3 z hz).1; omega)
  have hb : absorb a (putZ l (a + 1)) = absorb (a + 1) l := by rw [hp]; simp [absorb]
  have hlen := absorb_len l (a + 1)
  have hok : inbB (absorb (a + 1) l).1 (absorb (a + 1) l).2 = true := absorb_inb (by omega) ha a4 (fun z hz => ⟨by have := (a3 z hz).1; omega, (a3 z hz).2⟩) (by omega)
  refine ⟨(absorb (a + 1) l).1, (absorb (a + 1) l).2, ?_, absorb_ge _ _, hlen⟩
  rw [takeF_new h ⟨by omega, ha⟩ hn hb, if_pos hok]

end Go.Proofs.Ytdcojlbekpcejaa
