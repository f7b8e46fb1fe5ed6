/- What the reference's LeaseTake lays out one after the other is what LeaseTake gives. -/
import Derived.Test.YthkgechljfjpdaaLeaseTakePlain
namespace Go.Proofs.Ythkgechljfjpdaa

/-- One round of the reference: what has been laid out, whether the lease is among it, its time. -/
def stepR (s : ByteArray) (o has : Int) (st : List R3 × Bool × Int) (r : R3) : List R3 × Bool × Int :=
  if r.1 = s then (st.1 ++ [(s, o, if has = o then max st.2.2 r.2.2 else st.2.2)], true, if has = o then max st.2.2 r.2.2 else st.2.2)
  else if st.2.1 = false ∧ ltS s r.1 = true then (st.1 ++ [(s, o, st.2.2), r], true, st.2.2)
  else (st.1 ++ [r], st.2.1, st.2.2)
def foldR (s : ByteArray) (o has u : Int) (l : List R3) (k : Nat) : List R3 × Bool × Int := (l.take k).foldl (stepR s o has) ([], false, u)
theorem foldR_zero (s : ByteArray) (o has u : Int) (l : List R3) : foldR s o has u l 0 = ([], false, u) := by simp [foldR]
theorem foldR_step {s : ByteArray} {o has u : Int} {l : List R3} {k : Nat} {r : R3} (h : l[k]? = some r) : foldR s o has u l (k + 1) = stepR s o has (foldR s o has u l k) r := by
  obtain ⟨hl, rfl⟩ := List.getElem?_eq_some_iff.1 h
  unfold foldR
  rw [List.take_succ_eq_append_getElem hl, List.foldl_append]
  rfl

section
variable {s : ByteArray} {o has : Int}
theorem step_same {st : List R3 × Bool × Int} {r : R3} (h : r.1 = s) : stepR s o has st r = (st.1 ++ [(s, o, if has = o then max st.2.2 r.2.2 else st.2.2)], true, if has = o then max st.2.2 r.2.2 else st.2.2) := by simp [stepR, h]
theorem step_in {st : List R3 × Bool × Int} {r : R3} (h : r.1 ≠ s) (h1 : st.2.1 = false) (h2 : ltS s r.1 = true) : stepR s o has st r = (st.1 ++ [(s, o, st.2.2), r], true, st.2.2) := by simp [stepR, h, h1, h2]
theorem step_on {st : List R3 × Bool × Int} {r : R3} (h : r.1 ≠ s) (h1 : st.2.1 = true ∨ ltS s r.1 = false) : stepR s o has st r = (st.1 ++ [r], st.2.1, st.2.2) := by
  unfold stepR
  rw [if_neg h, if_neg]
  rintro ⟨a, b⟩
  rcases h1 with h1 | h1
  · rw [a] at h1; cases h1
  · rw [b] at h1; cases h1

theorem fold_on : ∀ (l acc : List R3) (d : Bool) (u : Int), (∀ r ∈ l, r.1 ≠ s ∧ (d = true ∨ ltS s r.1 = false)) → l.foldl (stepR s o has) (acc, d, u) = (acc ++ l, d, u)
  | [], acc, d, u, _ => by simp
  | r :: l, acc, d, u, h => by
    rw [List.foldl_cons, step_on (h r (by simp)).1 (h r (by simp)).2, fold_on l (acc ++ [r]) d u (fun q hq => h q (by simp [hq]))]
    simp

theorem fold_ins : ∀ (l acc : List R3) (u : Int), (∀ r ∈ l, r.1 ≠ s) →
    (if (l.foldl (stepR s o has) (acc, false, u)).2.1 = true then (l.foldl (stepR s o has) (acc, false, u)).1 else (l.foldl (stepR s o has) (acc, false, u)).1 ++ [(s, o, u)]) = acc ++ insR (s, o, u) l ∧ (l.foldl (stepR s o has) (acc, false, u)).2.2 = u
  | [], acc, u, _ => by simp [insR]
  | r :: l, acc, u, h => by
    cases hc : ltS s r.1
    · rw [List.foldl_cons, step_on (h r (by simp)) (.inr hc)]
      have ih := fold_ins l (acc ++ [r]) u (fun q hq => h q (by simp [hq]))
      refine ⟨ih.1.trans ?_, ih.2⟩
      have : ltR (s, o, u) r = false := hc
      simp [insR, this]
    · rw [List.foldl_cons, step_in (h r (by simp)) rfl hc, fold_on l _ true u (fun q hq => ⟨h q (by simp [hq]), .inl rfl⟩)]
      have : ltR (s, o, u) r = true := hc
      simp [insR, this]
end

theorem fold_set {l : List R3} {s : ByteArray} {o has u : Int} {k : Nat} {r : R3} (hp : l.Pairwise (fun a b => ltR a b = true)) (hk : l[k]? = some r) (hr : r.1 = s) :
    l.foldl (stepR s o has) ([], false, u) = (l.set k (s, o, if has = o then max u r.2.2 else u), true, if has = o then max u r.2.2 else u) := by
  obtain ⟨hl, he⟩ := List.getElem?_eq_some_iff.1 hk
  have hs : l = l.take k ++ r :: l.drop (k + 1) := by
    rw [← he, ← List.drop_eq_getElem_cons hl, List.take_append_drop]
  have hp' := hp
  rw [hs, List.pairwise_append, List.pairwise_cons] at hp'
  obtain ⟨_, ⟨h2, _⟩, h3⟩ := hp'
  have e1 : ∀ q ∈ l.take k, q.1 ≠ s ∧ (false = true ∨ ltS s q.1 = false) := fun q hq => by
    have := h3 q hq r (by simp)
    rw [← hr]
    exact ⟨ltS_ne this, .inr (ltS_asymm this)⟩
  have e2 : ∀ q ∈ l.drop (k + 1), q.1 ≠ s ∧ (true = true ∨ ltS s q.1 = false) := fun q hq => by
    have := h2 q hq
    rw [← hr]
    exact ⟨(ltS_ne this).symm, .inl rfl⟩
  have e3 : l.set k (s, o, if has = o then max u r.2.2 else u) = l.take k ++ (s, o, if has = o then max u r.2.2 else u) :: l.drop (k + 1) := List.set_eq_take_append_cons_drop.trans (if_pos hl)
  rw [e3]
  conv => lhs; rw [hs]
  rw [List.foldl_append, fold_on _ _ _ _ e1, List.foldl_cons, step_same hr, fold_on _ _ _ _ e2]
  simp

/-- What has been laid out at the end. -/
def outR (s : ByteArray) (o : Int) (st : List R3 × Bool × Int) : List R3 := if st.2.1 = true then st.1 else st.1 ++ [(s, o, st.2.2)]

theorem owner_pos {l : List R3} (h : leasesB l = true) {r : R3} (hr : r ∈ l) : 1 ≤ r.2.1 := by
  have := ((okAll_iff ltR_trans l).1 (leasesB_iff.1 h).1).1 r hr
  simp [okL] at this
  exact this.1.2.1

theorem takeR_fold {l : List R3} {now : Int} {s : ByteArray} {o span : Int} (h : takeOk l now s o span = true) (hh : ¬ (0 < hasF l now s ∧ hasF l now s ≠ o)) :
    takeR l now s o span = finR (outR s o (foldR s o (hasF l now s) (now + span) l l.length)) := by
  obtain ⟨h1, h2, h3, h4, _⟩ := takeOk_parts h
  have ho := (inB_iff.1 h4).1
  unfold foldR
  rw [List.take_length]
  rcases atR_cases l s with ⟨_, hall⟩ | ⟨k, r, ha, hk, hr, H⟩
  · rw [takeR_new h hall]
    obtain ⟨a, b⟩ := fold_ins (s := s) (o := o) (has := hasF l now s) l [] (now + span) hall
    unfold outR
    rw [b, a]
    rfl
  · have hv := hasF_some h1 h2 h3 hk hr H
    have hpos := owner_pos h1 (List.mem_of_getElem? hk)
    rw [fold_set (leases_pair h1) hk hr]
    by_cases hy : now < r.2.2
    · rw [if_pos hy] at hv
      have hxo : r.2.1 = o := by
        rw [hv] at hh
        by_cases e : r.2.1 = o
        · exact e
        · exact absurd ⟨by omega, e⟩ hh
      rw [takeR_mine h ha hk hr H hy hxo, hv]
      simp [outR, hxo]
    · rw [if_neg hy] at hv
      have hne : ¬ (0 : Int) = o := by omega
      rw [takeR_old h ha hk hr H hy, hv]
      simp [outR, hne]

theorem takeR_has_no {l : List R3} {now : Int} {s : ByteArray} {o span : Int} (h : hasF l now s < 0) : takeR l now s o span = ([], false) := by
  refine takeR_no ?_
  cases hc : takeOk l now s o span
  · rfl
  · obtain ⟨h1, h2, h3, _, _⟩ := takeOk_parts hc
    rcases atR_cases l s with ⟨_, hall⟩ | ⟨k, r, ha, hk, hr, H⟩
    · rw [hasF_none h1 h2 h3 hall] at h; omega
    · have := owner_pos h1 (List.mem_of_getElem? hk)
      rw [hasF_some h1 h2 h3 hk hr H] at h
      split at h <;> omega

theorem takeR_has_other {l : List R3} {now : Int} {s : ByteArray} {o span : Int} (h : 0 < hasF l now s) (hne : hasF l now s ≠ o) : takeR l now s o span = ([], false) := by
  cases hc : takeOk l now s o span
  · exact takeR_no hc
  · obtain ⟨h1, h2, h3, _, _⟩ := takeOk_parts hc
    rcases atR_cases l s with ⟨_, hall⟩ | ⟨k, r, ha, hk, hr, H⟩
    · rw [hasF_none h1 h2 h3 hall] at h; omega
    · have hv := hasF_some h1 h2 h3 hk hr H
      by_cases hy : now < r.2.2
      · rw [if_pos hy] at hv
        exact takeR_other hk hr H hy (by rw [hv] at hne; exact hne)
      · rw [if_neg hy] at hv
        omega
theorem takeOk_has {l : List R3} {now : Int} {s : ByteArray} {o span : Int} (h : 0 ≤ hasF l now s) (h1 : inB o 1 99 = true) (h2 : inB span 1 9999 = true) : takeOk l now s o span = true := by
  have : leasesB l = true ∧ timeB now = true ∧ nameB s = true := by
    unfold hasF at h
    split at h
    · assumption
    · omega
  simp [takeOk, this.1, this.2.1, this.2.2, h1, h2]

end Go.Proofs.Ythkgechljfjpdaa
