/- The steps behind a step, and safe flows: plain laws. -/
import Derived.Test.YtdchfiiaollheaaRunValid
namespace Go.Proofs.Ytdchfiiaollheaa

/-- A step lies behind another one. -/
inductive Beh (l : List Stp) (s : ByteArray) : ByteArray → Prop
  | base {p : Stp} : p ∈ l → s ∈ p.after → Beh l s p.name
  | step {p : Stp} {a : ByteArray} : p ∈ l → a ∈ p.after → Beh l s a → Beh l s p.name

theorem Beh.names {l : List Stp} {s x : ByteArray} (h : Beh l s x) : x ∈ namesP l := by
  cases h with
  | base hp _ => exact List.mem_map.2 ⟨_, hp, rfl⟩
  | step hp _ _ => exact List.mem_map.2 ⟨_, hp, rfl⟩

/-- Names tell steps apart. -/
theorem name_inj {l : List Stp} (hN : (namesP l).Nodup) {p q : Stp} (hp : p ∈ l) (hq : q ∈ l) (h : p.name = q.name) : p = q := by
  obtain ⟨i, hi, rfl⟩ := List.mem_iff_getElem.1 hp
  obtain ⟨j, hj, rfl⟩ := List.mem_iff_getElem.1 hq
  rw [List.nodup_iff_pairwise_ne, List.pairwise_iff_getElem] at hN
  rcases Nat.lt_trichotomy i j with q | q | q
  · exact absurd (by simpa [namesP] using h) (hN i j (by simpa [namesP] using hi) (by simpa [namesP] using hj) q)
  · subst q; rfl
  · exact absurd (by simpa [namesP] using h.symm) (hN j i (by simpa [namesP] using hj) (by simpa [namesP] using hi) q)

/-- What an order of a valid flow gives. -/
structure Ord (l : List Stp) (o : List ByteArray) : Prop where
  nodup : o.Nodup
  names : ∀ x, x ∈ o ↔ x ∈ namesP l
  len : o.length = l.length
  ready : ∀ (i : Nat) (x : ByteArray), o[i]? = some x → ∃ p ∈ l, p.name = x ∧ inB (o.take i) x = false ∧ haveB (o.take i) p.after = true

theorem orderN_take (l : List Stp) : ∀ (m k : Nat), k ≤ m → (orderN l k) = (orderN l m).take (orderN l k).length
  | 0, k, h => by
    have : k = 0 := by omega
    subst this
    simp [orderN]
  | m + 1, k, h => by
    rcases Nat.lt_or_ge k (m + 1) with q | q
    · have ih := orderN_take l m k (by omega)
      have hle : (orderN l k).length ≤ (orderN l m).length := by
        rw [ih]; simp only [List.length_take]; omega
      cases hr : readyP l (orderN l m) with
      | nil => rw [show orderN l (m + 1) = orderN l m from orderN_stay hr 1]; exact ih
      | cons x r => rw [orderN_go hr, List.take_append_of_le_length hle]; exact ih
    · have : k = m + 1 := by omega
      subst this
      simp

theorem orderN_full {l : List Stp} (h : (orderP l).length = l.length) : ∀ k, k ≤ l.length → (orderN l k).length = k := by
  have step : ∀ k, (orderN l (k + 1)).length ≤ (orderN l k).length + 1 := by
    intro k
    cases hr : readyP l (orderN l k) with
    | nil => rw [show orderN l (k + 1) = orderN l k from orderN_stay hr 1]; omega
    | cons x r => rw [orderN_go hr]; simp
  have up : ∀ d k, (orderN l (k + d)).length ≤ (orderN l k).length + d := by
    intro d
    induction d with
    | zero => intro k; simp
    | succ d ih => intro k; have := step (k + d); have := ih k; rw [← Nat.add_assoc]; omega
  have low : ∀ k, (orderN l k).length ≤ k := fun k => by have := up k 0; simpa [orderN] using this
  intro k hk
  have h1 := low k
  have h2 := up (l.length - k) k
  rw [show k + (l.length - k) = l.length by omega] at h2
  have h3 : (orderN l l.length).length = l.length := h
  omega

theorem orderN_ready {l : List Stp} (h : (orderP l).length = l.length) {k : Nat} (hk : k < l.length) : ∃ x r, readyP l (orderN l k) = x :: r ∧ (orderP l)[k]? = some x ∧ orderN l k = (orderP l).take k := by
  have hf := orderN_full h
  have ht : orderN l k = (orderP l).take k := by
    have := orderN_take l l.length k (by omega)
    rw [hf k (by omega)] at this
    exact this
  have ht1 : orderN l (k + 1) = (orderP l).take (k + 1) := by
    have := orderN_take l l.length (k + 1) (by omega)
    rw [hf (k + 1) (by omega)] at this
    exact this
  cases hr : readyP l (orderN l k) with
  | nil =>
    have e1 := hf (k + 1) (by omega)
    rw [show orderN l (k + 1) = orderN l k from orderN_stay hr 1, hf k (by omega)] at e1
    omega
  | cons x r =>
    refine ⟨x, r, rfl, ?_, ht⟩
    have e := orderN_go hr
    rw [ht1, ht, List.take_add_one] at e
    have e2 := List.append_cancel_left e
    cases hq : (orderP l)[k]? with
    | none => rw [hq] at e2; simp at e2
    | some y => rw [hq] at e2; simp at e2; rw [e2]

theorem nodup_full {α : Type} [DecidableEq α] {l m : List α} (h1 : l.Nodup) (h2 : ∀ x ∈ l, x ∈ m) (h3 : l.length = m.length) : ∀ x ∈ m, x ∈ l := by
  intro x hx
  refine Classical.byContradiction fun hn => ?_
  have : l.length ≤ (m.erase x).length := nodup_le h1 (fun y hy => (List.mem_erase_of_ne (fun e : y = x => hn (e ▸ hy))).2 (h2 y hy))
  rw [List.length_erase_of_mem hx] at this
  have := List.length_pos_of_mem hx
  omega

theorem ord_of {v : Int} {l : List Stp} (h : flowB v l = true) : Ord l (orderP l) := by
  obtain ⟨_, _, ha, _, ho⟩ := flowB_iff.1 h
  have hN := asc_nodup ha
  obtain ⟨g1, g2⟩ := orderN_good l l.length
  refine ⟨g1, fun x => ⟨g2 x, nodup_full g1 g2 (show (orderP l).length = (namesP l).length by rw [ho]; simp [namesP]) x⟩, ho, fun i x hx => ?_⟩
  have hi : i < l.length := by
    have := (List.getElem?_eq_some_iff.1 hx).1
    rw [ho] at this; exact this
  obtain ⟨y, r, hr, hy, ht⟩ := orderN_ready ho hi
  rw [hx] at hy
  cases hy
  rw [← ht]
  exact readyP_mem (by rw [hr]; simp)

section
variable {l : List Stp} {o : List ByteArray} {s x : ByteArray}
/-- The place of a name in the order. -/
theorem Ord.at_ (ho : Ord l o) (hx : x ∈ namesP l) : ∃ i : Nat, o[i]? = some x ∧ i < l.length := by
  obtain ⟨i, hi, he⟩ := List.mem_iff_getElem.1 ((ho.names x).2 hx)
  exact ⟨i, by rw [List.getElem?_eq_getElem hi, he], by rw [← ho.len]; exact hi⟩
theorem Ord.inj (ho : Ord l o) {i j : Nat} (h1 : o[i]? = some x) (h2 : o[j]? = some x) : i = j := by
  have hN := ho.nodup
  obtain ⟨hi, h1⟩ := List.getElem?_eq_some_iff.1 h1
  obtain ⟨hj, h2⟩ := List.getElem?_eq_some_iff.1 h2
  rw [List.nodup_iff_pairwise_ne, List.pairwise_iff_getElem] at hN
  rcases Nat.lt_trichotomy i j with q | q | q
  · exact absurd (h1.trans h2.symm) (hN i j hi hj q)
  · exact q
  · exact absurd (h2.trans h1.symm) (hN j i hj hi q)
/-- What a step comes after lies ahead of it in the order. -/
theorem Ord.ahead (ho : Ord l o) (hN : (namesP l).Nodup) {p : Stp} (hp : p ∈ l) {i : Nat} (hi : o[i]? = some p.name) {a : ByteArray} (ha : a ∈ p.after) : a ∈ o.take i := by
  obtain ⟨q, hq, hqn, _, hh⟩ := ho.ready i _ hi
  have := name_inj hN hq hp hqn
  subst this
  unfold haveB at hh
  rw [List.all_eq_true] at hh
  exact inB_iff.1 (hh a ha)
theorem mem_take_at {o : List ByteArray} {i : Nat} {a : ByteArray} (h : a ∈ o.take i) : ∃ j : Nat, j < i ∧ o[j]? = some a := by
  obtain ⟨j, hj, he⟩ := List.mem_iff_getElem.1 h
  rw [List.getElem_take] at he
  simp at hj
  exact ⟨j, by omega, by rw [List.getElem?_eq_getElem (by omega), he]⟩
/-- Who lies behind a step comes later in the order. -/
theorem Ord.later (ho : Ord l o) (hN : (namesP l).Nodup) (h : Beh l s x) : ∀ (i j : Nat), o[i]? = some s → o[j]? = some x → i < j := by
  induction h with
  | base hp hs =>
    intro i j hi hj
    obtain ⟨k, hk, hko⟩ := mem_take_at (ho.ahead hN hp hj hs)
    have := ho.inj hi hko
    omega
  | step hp ha hb ih =>
    intro i j hi hj
    obtain ⟨k, hk, hko⟩ := mem_take_at (ho.ahead hN hp hj ha)
    have := ih i k hi hko
    omega
theorem Ord.irrefl (ho : Ord l o) (hN : (namesP l).Nodup) : ¬ Beh l s s := by
  intro h
  obtain ⟨i, hi, _⟩ := ho.at_ h.names
  have := ho.later hN h i i hi hi
  omega
theorem Ord.asymm (ho : Ord l o) (hN : (namesP l).Nodup) (h : Beh l s x) (h2 : Beh l x s) : False := by
  obtain ⟨i, hi, _⟩ := ho.at_ h.names
  obtain ⟨j, hj, _⟩ := ho.at_ h2.names
  have := ho.later hN h j i hj hi
  have := ho.later hN h2 i j hi hj
  omega
end

/-- A step lies behind another one, of a valid flow: told. -/
noncomputable def behB (v : Int) (l : List Stp) (s x : ByteArray) : Bool := flowB v l && @decide (Beh l s x) (Classical.propDecidable _)
theorem behB_iff {v : Int} {l : List Stp} {s x : ByteArray} (hf : flowB v l = true) : behB v l s x = true ↔ Beh l s x := by
  unfold behB; rw [hf]; simp
theorem behB_no {v : Int} {l : List Stp} {s x : ByteArray} (hf : flowB v l = false) : behB v l s x = false := by
  unfold behB; rw [hf]; rfl
theorem beh_src {l : List Stp} {s x : ByteArray} (hh : stepsB l = true) (h : Beh l s x) : s ∈ namesP l := by
  induction h with
  | base hp hs =>
    have h2 := (stepsB_iff.1 hh _ hp).2
    unfold haveB at h2
    rw [List.all_eq_true] at h2
    exact inB_iff.1 (h2 _ hs)
  | step _ _ _ ih => exact ih
theorem behB_at {v : Int} {l : List Stp} {s x : ByteArray} (hs : s ∉ namesP l) : behB v l s x = false := by
  cases hf : flowB v l
  · exact behB_no hf
  · cases hb : behB v l s x
    · rfl
    · exact absurd (beh_src (flowB_iff.1 hf).2.2.2.1 ((behB_iff hf).1 hb)) hs

/-- What is known of a list that holds just what lies behind a step. -/
def IsBeh (v : Int) (l : List Stp) (s : ByteArray) (m : List ByteArray) : Prop := ∀ x, inB m x = behB v l s x
theorem isBeh_nil {v : Int} {l : List Stp} {s : ByteArray} (h : ∀ x, behB v l s x = false) : IsBeh v l s [] := fun x => by rw [h]; rfl

/-- A flow is safe: a step that can not be undone comes behind all others. -/
noncomputable def safeB (v : Int) (l : List Stp) : Bool := flowB v l && l.all (fun p => p.undo || l.all (fun q => decide (q.name = p.name) || behB v l q.name p.name))
theorem safeB_iff {v : Int} {l : List Stp} : safeB v l = true ↔ flowB v l = true ∧ ∀ p ∈ l, p.undo = false → ∀ q ∈ l, q.name ≠ p.name → Beh l q.name p.name := by
  constructor
  · intro h
    simp only [safeB, Bool.and_eq_true, List.all_eq_true, Bool.or_eq_true, decide_eq_true_iff] at h
    refine ⟨h.1, fun p hp hu q hq hne => ?_⟩
    rcases h.2 p hp with h1 | h1
    · rw [hu] at h1; cases h1
    · rcases h1 q hq with h2 | h2
      · exact absurd h2 hne
      · exact (behB_iff h.1).1 h2
  · rintro ⟨hf, H⟩
    simp only [safeB, Bool.and_eq_true, List.all_eq_true, Bool.or_eq_true, decide_eq_true_iff]
    refine ⟨hf, fun p hp => ?_⟩
    cases hu : p.undo
    · right
      intro q hq
      by_cases hne : q.name = p.name
      · exact .inl hne
      · exact .inr ((behB_iff hf).2 (H p hp hu q hq hne))
    · exact .inl rfl
theorem safeB_no0 {v : Int} {l : List Stp} (h : flowB v l = false) : safeB v l = false := by simp [safeB, h]
theorem safeB_no {v : Int} {l : List Stp} {p q : Stp} (hp : p ∈ l) (hq : q ∈ l) (hu : p.undo = false) (hne : q.name ≠ p.name) (hb : behB v l q.name p.name = false) : safeB v l = false := by
  cases hs : safeB v l
  · rfl
  · obtain ⟨hf, H⟩ := safeB_iff.1 hs
    have := (behB_iff hf).2 (H p hp hu q hq hne)
    rw [hb] at this; cases this

/-- The steps that have to be done ahead of a step. -/
noncomputable def aheadL (v : Int) (l : List Stp) (s : ByteArray) : List ByteArray := (l.filter (fun q => behB v l q.name s)).map Stp.name
theorem aheadL_in {v : Int} {l : List Stp} {s : ByteArray} {k : Nat} {q : Stp} (h : l[k]? = some q) (hb : behB v l q.name s = true) : ((l.take (k + 1)).filter (fun q => behB v l q.name s)).map Stp.name = ((l.take k).filter (fun q => behB v l q.name s)).map Stp.name ++ [q.name] := by
  rw [List.take_add_one, h]; simp [hb]
theorem aheadL_out {v : Int} {l : List Stp} {s : ByteArray} {k : Nat} {q : Stp} (h : l[k]? = some q) (hb : behB v l q.name s = false) : ((l.take (k + 1)).filter (fun q => behB v l q.name s)).map Stp.name = ((l.take k).filter (fun q => behB v l q.name s)).map Stp.name := by
  rw [List.take_add_one, h]; simp [hb]
theorem aheadL_len {v : Int} {l : List Stp} {s : ByteArray} : (aheadL v l s).length ≤ l.length := by
  unfold aheadL; rw [List.length_map]; exact List.length_filter_le _ _

/-- All but a step are ahead of it just if so many are. -/
theorem ahead_all {v : Int} {l : List Stp} (hf : flowB v l = true) {p : Stp} (hp : p ∈ l) : (decide (l.length > 1 + (aheadL v l p.name).length) = false) ↔ ∀ q ∈ l, q.name ≠ p.name → Beh l q.name p.name := by
  have hN := flow_nodup hf
  have ho := ord_of hf
  have hnot : p.name ∉ aheadL v l p.name := by
    intro h
    unfold aheadL at h
    obtain ⟨q, hq, hqn⟩ := List.mem_map.1 h
    rw [List.mem_filter] at hq
    have := (behB_iff hf).1 hq.2
    rw [hqn] at this
    exact ho.irrefl hN this
  have hnd : (aheadL v l p.name).Nodup := by
    unfold aheadL
    exact List.Nodup.sublist (List.Sublist.map _ List.filter_sublist) hN
  constructor
  · intro h q hq hne
    have hlen : l.length ≤ 1 + (aheadL v l p.name).length := by
      have := of_decide_eq_false h
      omega
    refine Classical.byContradiction fun hb => ?_
    have hq2 : q.name ∉ aheadL v l p.name := by
      intro h
      unfold aheadL at h
      obtain ⟨q', hq', hqn⟩ := List.mem_map.1 h
      rw [List.mem_filter] at hq'
      have := (behB_iff hf).1 hq'.2
      rw [hqn] at this
      exact hb this
    have hbig : (q.name :: p.name :: aheadL v l p.name).Nodup := by
      rw [List.nodup_cons, List.nodup_cons]
      exact ⟨by simp [hne, hq2], hnot, hnd⟩
    have := nodup_le (m := namesP l) hbig (fun y hy => by
      simp only [List.mem_cons] at hy
      rcases hy with rfl | rfl | hy
      · exact List.mem_map.2 ⟨q, hq, rfl⟩
      · exact List.mem_map.2 ⟨p, hp, rfl⟩
      · unfold aheadL at hy
        obtain ⟨z, hz, rfl⟩ := List.mem_map.1 hy
        exact List.mem_map.2 ⟨z, (List.mem_filter.1 hz).1, rfl⟩)
    simp [namesP] at this
    omega
  · intro H
    have := nodup_le (m := p.name :: aheadL v l p.name) hN (fun y hy => by
      by_cases hyne : y = p.name
      · rw [hyne]; simp
      · obtain ⟨q, hq, rfl⟩ := List.mem_map.1 hy
        exact List.mem_cons_of_mem _ (List.mem_map.2 ⟨q, List.mem_filter.2 ⟨hq, (behB_iff hf).2 (H q hq hyne)⟩, rfl⟩))
    simp [namesP] at this
    exact decide_eq_false (by omega)

end Go.Proofs.Ytdchfiiaollheaa
