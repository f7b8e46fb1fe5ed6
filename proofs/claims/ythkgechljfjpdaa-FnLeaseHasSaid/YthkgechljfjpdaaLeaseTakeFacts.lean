/- The plain laws of LeaseTake. -/
import Derived.Test.YthkgechljfjpdaaLeaseTakePlain
namespace Go.Proofs.Ythkgechljfjpdaa

def notS (s : ByteArray) (r : R3) : Bool := !decide (r.1 = s)
theorem filter_insR {s : ByteArray} {x : R3} (hx : x.1 = s) : ∀ l : List R3, (insR x l).filter (notS s) = l.filter (notS s)
  | [] => by simp [insR, notS, hx]
  | r :: l => by
    unfold insR
    split
    · simp [notS, hx]
    · simp only [List.filter_cons, filter_insR hx l]
theorem split_at {l : List R3} {k : Nat} {r : R3} (h : l[k]? = some r) : l = l.take k ++ r :: l.drop (k + 1) := by
  obtain ⟨hl, he⟩ := List.getElem?_eq_some_iff.1 h
  rw [← he, ← List.drop_eq_getElem_cons hl, List.take_append_drop]
theorem filter_set {s : ByteArray} {x r : R3} {l : List R3} {k : Nat} (hk : l[k]? = some r) (hr : r.1 = s) (hx : x.1 = s) : (l.set k x).filter (notS s) = l.filter (notS s) := by
  obtain ⟨hl, _⟩ := List.getElem?_eq_some_iff.1 hk
  have e1 : l.set k x = l.take k ++ x :: l.drop (k + 1) := List.set_eq_take_append_cons_drop.trans (if_pos hl)
  have e2 : l.filter (notS s) = (l.take k ++ r :: l.drop (k + 1)).filter (notS s) := by rw [← split_at hk]
  rw [e1, e2]
  simp [notS, hr, hx]

/-- In valid leases a name stands once. -/
theorem only_at {l : List R3} (h : leasesB l = true) {s : ByteArray} {k : Nat} {r : R3} (hk : l[k]? = some r) (hr : r.1 = s) : ∀ j, j ≠ k → ∀ q, l[j]? = some q → q.1 ≠ s := by
  have hp := leases_pair h
  obtain ⟨hl, he⟩ := List.getElem?_eq_some_iff.1 hk
  intro j hj q hq
  obtain ⟨hl', he'⟩ := List.getElem?_eq_some_iff.1 hq
  rcases Nat.lt_or_ge j k with c | c
  · have := List.pairwise_iff_getElem.1 hp j k hl' hl c
    rw [he, he'] at this
    rw [← hr]; exact ltS_ne this
  · have := List.pairwise_iff_getElem.1 hp k j hl hl' (by omega)
    rw [he, he'] at this
    rw [← hr]; exact (ltS_ne this).symm
theorem at_of {l : List R3} (h : leasesB l = true) {s : ByteArray} {k : Nat} {r : R3} (hk : l[k]? = some r) (hr : r.1 = s) : atR l s = k :=
  atR_some hk hr (fun j hj => only_at h hk hr j (by omega))
theorem filter_len {l : List R3} (h : leasesB l = true) {s : ByteArray} {k : Nat} {r : R3} (hk : l[k]? = some r) (hr : r.1 = s) : l.length = (l.filter (notS s)).length + 1 := by
  have ho := only_at h hk hr
  obtain ⟨hl, _⟩ := List.getElem?_eq_some_iff.1 hk
  have h1 : (l.take k).filter (notS s) = l.take k := by
    rw [List.filter_eq_self]
    intro q hq
    obtain ⟨j, hj, rfl⟩ := List.getElem_of_mem hq
    simp at hj
    rw [List.getElem_take]
    simpa [notS] using ho j (by omega) _ (List.getElem?_eq_getElem (by omega))
  have h2 : (l.drop (k + 1)).filter (notS s) = l.drop (k + 1) := by
    rw [List.filter_eq_self]
    intro q hq
    obtain ⟨j, hj, rfl⟩ := List.getElem_of_mem hq
    simp at hj
    rw [List.getElem_drop]
    simpa [notS] using ho (k + 1 + j) (by omega) _ (List.getElem?_eq_getElem (by omega))
  have e : l.filter (notS s) = l.take k ++ l.drop (k + 1) := by
    conv => lhs; rw [split_at hk]
    rw [List.filter_append, List.filter_cons, h1, h2]
    simp [notS, hr]
  rw [e]
  simp
  omega

theorem finR_open {x out : List R3} (h : finR x = (out, true)) : x = out ∧ leasesB out = true := by
  unfold finR at h
  split at h
  · rename_i hv
    cases h
    exact ⟨rfl, hv⟩
  · cases h

theorem take_open {l : List R3} {now : Int} {s : ByteArray} {o span : Int} {out : List R3} (h : takeR l now s o span = (out, true)) :
    takeOk l now s o span = true ∧ leasesB out = true ∧ out.filter (notS s) = l.filter (notS s) ∧ ∃ (k : Nat) (u : Int), out[k]? = some (s, o, u) ∧ now + span ≤ u := by
  have hok : takeOk l now s o span = true := by
    cases hc : takeOk l now s o span
    · rw [takeR_no hc] at h; cases h
    · rfl
  refine ⟨hok, ?_⟩
  rcases atR_cases l s with ⟨_, hall⟩ | ⟨k, ⟨s', x, y⟩, ha, hk, hr, H⟩
  · rw [takeR_new hok hall] at h
    obtain ⟨rfl, hv⟩ := finR_open h
    refine ⟨hv, filter_insR (s := s) (x := (s, o, now + span)) rfl l, ?_⟩
    obtain ⟨k, hk, he⟩ := List.getElem_of_mem (insR_mem.2 (.inl rfl) : (s, o, now + span) ∈ insR (s, o, now + span) l)
    exact ⟨k, now + span, by rw [List.getElem?_eq_getElem hk, he], Int.le_refl _⟩
  · have hl : k < l.length := (List.getElem?_eq_some_iff.1 hk).1
    by_cases hy : now < y
    · by_cases hxo : x = o
      · rw [takeR_mine hok ha hk hr H hy hxo] at h
        obtain ⟨rfl, hv⟩ := finR_open h
        exact ⟨hv, filter_set hk hr rfl, k, max (now + span) y, by rw [List.getElem?_set, if_pos rfl, if_pos hl], by omega⟩
      · rw [takeR_other hk hr H hy hxo] at h; cases h
    · rw [takeR_old hok ha hk hr H hy] at h
      obtain ⟨rfl, hv⟩ := finR_open h
      exact ⟨hv, filter_set hk hr rfl, k, now + span, by rw [List.getElem?_set, if_pos rfl, if_pos hl], by omega⟩

section
variable {l : List R3} {now : Int} {s : ByteArray} {o span : Int} {out : List R3}
theorem take_has (h : takeR l now s o span = (out, true)) {t : Int} (ht : timeB t = true) (h2 : t < now + span) : hasF out t s = o := by
  obtain ⟨hok, hv, _, k, u, hk, hu⟩ := take_open h
  obtain ⟨_, _, hn, _, _⟩ := takeOk_parts hok
  rw [hasF_some hv ht hn hk rfl (fun j hj => only_at hv hk rfl j (by omega)), if_pos (by show t < u; omega)]
theorem take_now (h : takeR l now s o span = (out, true)) : hasF out now s = o := by
  obtain ⟨hok, _⟩ := take_open h
  obtain ⟨_, h2, _, _, h5⟩ := takeOk_parts hok
  have := inB_iff.1 h5
  exact take_has h h2 (by omega)
theorem take_others (h : takeR l now s o span = (out, true)) : out.filter (notS s) = l.filter (notS s) ∧ out.length = (out.filter (notS s)).length + 1 := by
  obtain ⟨_, hv, hf, k, u, hk, _⟩ := take_open h
  exact ⟨hf, filter_len hv hk rfl⟩
theorem take_one (h : takeR l now s o span = (out, true)) {o' : Int} (ho : o' ≠ o) : takeR out now s o' span = ([], false) := by
  obtain ⟨hok, hv, _, k, u, hk, hu⟩ := take_open h
  obtain ⟨_, h2, _, _, h5⟩ := takeOk_parts hok
  have := inB_iff.1 h5
  exact takeR_other hk rfl (fun j hj => only_at hv hk rfl j (by omega)) (by show now < u; omega) (Ne.symm ho)
theorem take_twice (h : takeR l now s o span = (out, true)) {sp : Int} (h1 : 1 ≤ sp) (h2 : sp ≤ span) : takeR out now s o sp = (out, true) := by
  obtain ⟨hok, hv, _, k, u, hk, hu⟩ := take_open h
  obtain ⟨_, t2, t3, t4, t5⟩ := takeOk_parts hok
  have h5 := inB_iff.1 t5
  have hok' : takeOk out now s o sp = true := by simp [takeOk, hv, t2, t3, t4, inB_iff.2 (show 1 ≤ sp ∧ sp ≤ 9999 by omega)]
  rw [takeR_mine hok' (at_of hv hk rfl) hk rfl (fun j hj => only_at hv hk rfl j (by omega)) (by show now < u; omega) rfl]
  have hm : max (now + sp) (s, o, u).2.2 = u := by show max (now + sp) u = u; omega
  rw [hm]
  have hset : out.set k (s, o, u) = out := by
    obtain ⟨hl, he⟩ := List.getElem?_eq_some_iff.1 hk
    rw [← he, List.set_getElem_self]
  rw [hset]
  simp [finR, hv]
end

theorem set_valid {l : List R3} (h : leasesB l = true) {k : Nat} {r x : R3} (hk : l[k]? = some r) (hr : r.1 = x.1) (hx : okL x = true) : leasesB (l.set k x) = true := by
  rw [leasesB_iff] at h ⊢
  obtain ⟨h1, h2⟩ := h
  rw [okAll_iff ltR_trans] at h1 ⊢
  refine ⟨⟨fun a ha => ?_, ?_⟩, by simpa using h2⟩
  · rcases List.mem_or_eq_of_mem_set ha with h3 | rfl
    · exact h1.1 a h3
    · exact hx
  · obtain ⟨hl, he⟩ := List.getElem?_eq_some_iff.1 hk
    rw [List.pairwise_iff_getElem]
    intro i j hi hj hij
    simp at hi hj
    have hp := List.pairwise_iff_getElem.1 h1.2 i j hi hj hij
    unfold ltR at hp ⊢
    rw [List.getElem_set, List.getElem_set]
    split
    · rename_i e
      subst e
      rw [if_neg (by omega), ← hr, ← he]
      exact hp
    · split
      · rename_i e
        subst e
        rw [← hr, ← he]
        exact hp
      · exact hp

end Go.Proofs.Ythkgechljfjpdaa
