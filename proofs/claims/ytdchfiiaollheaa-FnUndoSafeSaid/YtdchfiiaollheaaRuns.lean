/- Runs: the steps that are done in order; what is not undone: walks over forth, back, firm, l3Order, l3Left. -/
import Derived.Test.YtdchfiiaollheaaFlowValidS
namespace Go.Proofs.Ytdchfiiaollheaa
open Go.RowKit

/-- Whether the step with a name can be undone. -/
def undoB (l : List Stp) (s : ByteArray) : Bool := match l[(namesP l).findIdx (fun t => decide (t = s))]? with | some p => p.undo | none => false
theorem atS_idx {l : List ByteArray} {s : ByteArray} {k : Nat} (h : atS l s = (k : Int)) : l.findIdx (fun t => decide (t = s)) = k := by
  unfold atS at h
  split at h
  · omega
  · omega
theorem undoB_at {l : List Stp} {s nm : ByteArray} {k : Nat} {af : List ByteArray} {u : Bool} (h : atS (namesP l) s = (k : Int)) (hk : l[k]? = some ⟨nm, af, u⟩) : undoB l s = u := by
  unfold undoB
  rw [atS_idx h, hk]
theorem atP {l : List Stp} {s : ByteArray} (h : s ∈ namesP l) : ∃ (k : Nat) (af : List ByteArray) (u : Bool), atS (namesP l) s = (k : Int) ∧ k < l.length ∧ l[k]? = some ⟨s, af, u⟩ ∧ undoB l s = u := by
  rcases atS_cases (namesP l) s with ⟨_, hn⟩ | ⟨k, ha, hk, _⟩
  · exact absurd h hn
  · have hkl : k < l.length := by
      have := (List.getElem?_eq_some_iff.1 hk).1
      simpa [namesP] using this
    obtain ⟨⟨nm, af, u⟩, hp⟩ : ∃ p, l[k]? = some p := ⟨_, List.getElem?_eq_getElem hkl⟩
    have hn := namesP_at hp
    rw [hk] at hn
    have e : s = nm := Option.some.inj hn
    subst e
    exact ⟨k, af, u, ha, hkl, hp, undoB_at ha hp⟩

/-- The step at place i can be done when those ahead of it are. -/
def doneAt (l : List Stp) (done : List ByteArray) (i : Nat) : Bool := match done[i]? with | some s => inB (readyP l (done.take i)) s | none => true
def doneB (l : List Stp) (done : List ByteArray) : Bool := (List.range done.length).all (doneAt l done)
theorem doneB_no {l : List Stp} {done : List ByteArray} {k : Nat} (hk : k < done.length) (h : doneAt l done k = false) : doneB l done = false := by
  unfold doneB
  rw [List.all_eq_false]
  exact ⟨k, by simpa using hk, by simp [h]⟩
theorem doneB_iff {l : List Stp} {done : List ByteArray} : doneB l done = true ↔ ∀ j, j < done.length → doneAt l done j = true := by
  unfold doneB
  rw [List.all_eq_true]
  constructor
  · intro h j hj
    exact h j (by simpa using hj)
  · intro h j hj
    exact h j (by simpa using hj)
theorem doneAt_ready {l : List Stp} {done : List ByteArray} {i : Nat} {s : ByteArray} (h : done[i]? = some s) : doneAt l done i = inB (readyP l (done.take i)) s := by
  unfold doneAt; rw [h]
theorem upto_done {l : List Stp} {done : List ByteArray} {k : Nat} (H : ∀ j, j < k → doneAt l done j = true) (h : doneAt l done k = true) : ∀ j, j < k + 1 → doneAt l done j = true := by
  intro j hj
  rcases Nat.lt_or_ge j k with q | q
  · exact H j q
  · have e : j = k := by omega
    subst e; exact h
theorem done_names {l : List Stp} {done : List ByteArray} (h : doneB l done = true) : ∀ s ∈ done, s ∈ namesP l := by
  intro s hs
  obtain ⟨j, hj, rfl⟩ := List.mem_iff_getElem.1 hs
  have := doneB_iff.1 h j hj
  rw [doneAt_ready (List.getElem?_eq_getElem hj)] at this
  obtain ⟨p, hp, hpx, _⟩ := readyP_mem (inB_iff.1 this)
  exact List.mem_map.2 ⟨p, hp, hpx⟩
theorem done_nodup {l : List Stp} {done : List ByteArray} (h : doneB l done = true) : done.Nodup := by
  rw [List.nodup_iff_pairwise_ne, List.pairwise_iff_getElem]
  intro i j hi hj hij e
  have := doneB_iff.1 h j hj
  rw [doneAt_ready (List.getElem?_eq_getElem hj)] at this
  obtain ⟨p, hp, hpx, hn, _⟩ := readyP_mem (inB_iff.1 this)
  refine inB_no hn ?_
  rw [← e]
  exact List.mem_iff_getElem.2 ⟨i, by simp; omega, by rw [List.getElem_take]⟩
theorem done_len {l : List Stp} {done : List ByteArray} (h : doneB l done = true) : done.length ≤ l.length := by
  have := nodup_le (done_nodup h) (done_names h)
  simpa [namesP] using this
theorem doneAt_no1 {l : List Stp} {done : List ByteArray} {i : Nat} {s : ByteArray} (h : done[i]? = some s) (hn : s ∉ namesP l) : doneAt l done i = false := by
  rw [doneAt_ready h]
  cases hi : inB (readyP l (done.take i)) s
  · rfl
  · obtain ⟨p, hp, hpx, _⟩ := readyP_mem (inB_iff.1 hi)
    exact absurd (List.mem_map.2 ⟨p, hp, hpx⟩) hn
theorem doneAt_no2 {l : List Stp} {done : List ByteArray} {i : Nat} {s : ByteArray} (h : done[i]? = some s) (hn : inB (done.take i) s = true) : doneAt l done i = false := by
  rw [doneAt_ready h]
  cases hi : inB (readyP l (done.take i)) s
  · rfl
  · obtain ⟨p, hp, hpx, hf, _⟩ := readyP_mem (inB_iff.1 hi)
    rw [hn] at hf; cases hf
theorem doneAt_have {l : List Stp} {done : List ByteArray} {i k : Nat} {s : ByteArray} {af : List ByteArray} {u : Bool} (hN : (namesP l).Nodup) (h : done[i]? = some s) (hk : l[k]? = some ⟨s, af, u⟩) (hn : inB (done.take i) s = false) : doneAt l done i = haveB (done.take i) af := by
  rw [doneAt_ready h]
  cases hh : haveB (done.take i) af
  · cases hi : inB (readyP l (done.take i)) s
    · rfl
    · obtain ⟨p, hp, hpx, _, hf⟩ := readyP_mem (inB_iff.1 hi)
      obtain ⟨j, hj, rfl⟩ := List.mem_iff_getElem.1 hp
      obtain ⟨hkl, hke⟩ := List.getElem?_eq_some_iff.1 hk
      have hjk : j = k := by
        rw [List.nodup_iff_pairwise_ne, List.pairwise_iff_getElem] at hN
        rcases Nat.lt_trichotomy j k with q | q | q
        · have := hN j k (by simpa [namesP] using hj) (by simpa [namesP] using hkl) q
          simp [namesP, hpx, hke] at this
        · exact q
        · have := hN k j (by simpa [namesP] using hkl) (by simpa [namesP] using hj) q
          simp [namesP, hpx, hke] at this
      subst hjk
      rw [hke] at hf
      rw [hh] at hf; cases hf
  · rw [inB_iff]
    unfold readyP
    refine List.mem_map.2 ⟨⟨s, af, u⟩, List.mem_filter.2 ⟨List.mem_of_getElem? hk, by simp [hn, hh]⟩, rfl⟩
theorem inTake {done : List ByteArray} {i : Nat} {s : ByteArray} (h : done[i]? = some s) : decide (atS done s < (i : Int)) = inB (done.take i) s := by
  rcases atS_cases done s with ⟨_, hn⟩ | ⟨k, ha, hk, H⟩
  · exact absurd (List.mem_of_getElem? h) hn
  · rw [ha, Bool.eq_iff_iff, decide_eq_true_iff, inB_iff]
    constructor
    · intro hlt
      exact List.mem_of_getElem? (i := k) (by rw [List.getElem?_take, if_pos (by omega)]; exact hk)
    · intro hm
      obtain ⟨j, hj, he⟩ := List.mem_iff_getElem.1 hm
      rw [List.getElem_take] at he
      have hji : j < i := by simp at hj; omega
      have hnot : ¬ j < k := fun hjk => H j s hjk (by rw [List.getElem?_eq_getElem (by simp at hj; omega), he]) rfl
      omega
theorem asc_nodup {l : List ByteArray} (h : ascB l = true) : l.Nodup := by
  have h2 := ((okAll_iff (ok := nameB) (lt := ltS) (fun _ _ _ h1 h2 => ltS_trans h1 h2) l).1 h).2
  rw [List.nodup_iff_pairwise_ne]
  exact h2.imp (fun hab => ltS_ne hab)

/-- How many of the first n are not undone. -/
def firmN (l : List Stp) (done : List ByteArray) : Nat → Nat
  | 0 => 0
  | n + 1 => match done[n]? with | some s => if undoB l s = true then firmN l done n else n + 1 | none => n + 1
def firmP (l : List Stp) (done : List ByteArray) : Nat := firmN l done done.length
theorem firmN_go {l : List Stp} {done : List ByteArray} {n : Nat} {s : ByteArray} (h : done[n]? = some s) (hu : undoB l s = true) : firmN l done (n + 1) = firmN l done n := by simp [firmN, h, hu]
theorem firmN_stop {l : List Stp} {done : List ByteArray} {n : Nat} {s : ByteArray} (h : done[n]? = some s) (hu : undoB l s = false) : firmN l done (n + 1) = n + 1 := by simp [firmN, h, hu]
theorem firmN_le (l : List Stp) (done : List ByteArray) : ∀ n, firmN l done n ≤ n
  | 0 => Nat.le_refl _
  | n + 1 => by
    have ih := firmN_le l done n
    unfold firmN
    split
    · split
      · omega
      · omega
    · omega
/-- Whether the last one can be undone. -/
def lastU (l : List Stp) (done : List ByteArray) : Bool := match done[done.length - 1]? with | some s => undoB l s | none => false
theorem lastU_nil (l : List Stp) : lastU l [] = false := rfl
theorem lastU_firm {l : List Stp} {done : List ByteArray} : lastU l done = decide (firmP l done < done.length) := by
  rcases Nat.eq_zero_or_pos done.length with h0 | h0
  · obtain rfl := List.eq_nil_of_length_eq_zero h0
    simp [lastU, firmP, firmN]
  · obtain ⟨n, hn⟩ : ∃ n, done.length = n + 1 := ⟨done.length - 1, by omega⟩
    obtain ⟨s, hs⟩ : ∃ s, done[n]? = some s := ⟨_, List.getElem?_eq_getElem (by omega)⟩
    unfold lastU firmP
    rw [hn, show n + 1 - 1 = n from rfl, hs]
    cases hu : undoB l s
    · rw [firmN_stop hs hu]; simp [hu]
    · rw [firmN_go hs hu]
      have := firmN_le l done n
      simp [hu]; omega

def forthI (gn n : Nat) : Int := if gn = n then 2 else 0
def backI (l : List Stp) (done : List ByteArray) : Int := if lastU l done = true then 1 else 3

set_option maxHeartbeats 400000 in
theorem forth_c (v : Int) (A : Option Addr) (n c : Nat) (G : Option Addr) (gn gc : Nat) (w : World) : Calls Try.prog 75 #[.agg #[.int .i64 v, .slice A n c], .slice G gn gc] w fun e w' =>
    e = .returned (.int .i64 (forthI gn n)) ∧ Below w.heap.size w w' := by
  by_cases h : gn = n
  · have e1 : ((gn : Int) == (n : Int)) = true := by simp; omega
    have HH := Lib.hid h
    clear h
    go_enter Try.func75, Try.ntmps75
    go_wp2
    go_ret
    exact ⟨ret_int (by unfold forthI; rw [if_pos HH.out]), by (repeat' first | exact bel_refl _ | refine bel_al ?_ _ | refine bel_dr ?_ | refine bel_drN ?_ _ | refine bel_nx ?_ (by assumption) | (refine bel_set ?_ (by first | omega | (simp; omega)) _))⟩
  · have e1 : ((gn : Int) == (n : Int)) = false := by simp; omega
    have HH := Lib.hid h
    clear h
    go_enter Try.func75, Try.ntmps75
    go_wp2
    go_ret
    exact ⟨ret_int (by unfold forthI; rw [if_neg HH.out]), by (repeat' first | exact bel_refl _ | refine bel_al ?_ _ | refine bel_dr ?_ | refine bel_drN ?_ _ | refine bel_nx ?_ (by assumption) | (refine bel_set ?_ (by first | omega | (simp; omega)) _))⟩

set_option maxRecDepth 20000 in
set_option maxHeartbeats 4000000 in
theorem back_c (v : Int) (A : Option Addr) (n c : Nat) (l : List Stp) (G : Option Addr) (gn gc : Nat) (done : List ByteArray) (w : World) (h : SlP w A n c l) (h' : SlS w G gn gc done) (hd : ∀ s ∈ done, s ∈ namesP l) : Calls Try.prog 77 #[.agg #[.int .i64 v, .slice A n c], .slice G gn gc] w fun e w' =>
    e = .returned (.int .i64 (backI l done)) ∧ Below w.heap.size w w' := by
  have HL := Lib.hid h.len
  have HDL := Lib.hid h'.len
  have HD := Lib.hid hd
  clear hd
  have hcap := h.cap
  have hmax := h.max
  have hcap' := h'.cap
  have hmax' := h'.max
  have kf := Blk.new w 25 #[.int .i64 v, .slice A n c]
  have hW := bel_al (bel_refl w) (.cells #[.int .i64 v, .slice A n c] 25)
  rcases Nat.eq_zero_or_pos gn with hg0 | hg0
  · subst hg0
    have HF : Hid (lastU l done = false) := Lib.hid (by rw [List.eq_nil_of_length_eq_zero HDL.out]; exact lastU_nil l)
    go_enter Try.func77, Try.ntmps77
    go_wp2_with fail
    go_quiet (fail)
    go_wp2_with fail
    go_ret
    exact ⟨ret_int (by unfold backI; rw [HF.out]; rfl), by (repeat' first | assumption | exact bel_refl _ | refine bel_al ?_ _ | refine bel_dr ?_ | refine bel_drN ?_ _ | refine bel_nx ?_ (by assumption) | (refine bel_set ?_ (by first | omega | (simp; omega)) _))⟩
  · obtain ⟨j, rfl⟩ : ∃ j, gn = j + 1 := ⟨gn - 1, by omega⟩
    obtain ⟨bd, offd, s, hGd, hs, hd0⟩ := SlS.get h' (i := j) (by omega)
    subst hGd
    have hmem := HD.out s (List.mem_of_getElem? hs)
    obtain ⟨k, af, u, hat, hkl, hp, hun⟩ := atP hmem
    obtain ⟨b, off, nm, B, m, d, af2, u2, rfl, hx, hc0, hc1, hc2, haf⟩ := SlP.get h (i := k) (by rw [← HL.out]; exact hkl)
    rw [hp] at hx
    obtain ⟨rfl, rfl, rfl⟩ : s = nm ∧ af = af2 ∧ u = u2 := by simpa using hx
    have hkn : k < n := by rw [← HL.out]; exact hkl
    have HS := Lib.hid hs
    have HU := Lib.hid hun
    have HAT := Lib.hid hat
    clear hmem hat hkl hp hun hx hs haf
    have q0 : (0 : Int) ≤ (k : Int) := by omega
    have q1 : (k : Int) < (n : Int) := by omega
    have HF : Hid (lastU l done = u) := Lib.hid (by unfold lastU; rw [HDL.out, show j + 1 - 1 = j from rfl, HS.out]; exact HU.out)
    have hwj : IntKind.i64.wrap (j : Int) = (j : Int) := by rw [IntKind.wrap_i64]; omega
    have dj : decide ((0 : Int) < (j : Int) + 1) = true := decide_eq_true (by omega)
    have j0 : (0 : Int) ≤ (j : Int) := by omega
    have j1 : (j : Int) < (j : Int) + 1 := by omega
    have e0 := cell_al hd0 (.cells #[.int .i64 v, .slice (some ⟨b, off, none⟩) n c] 25)
    have e2 := cell_al hc2 (.cells #[.int .i64 v, .slice (some ⟨b, off, none⟩) n c] 25)
    go_enter Try.func77, Try.ntmps77
    go_wp2_with fail
    refine wp_region_held_drew (S := (fun w' => w'.cell? ⟨w.heap.size, 0, none⟩ = some (.int .i64 v) ∧ w'.cell? ⟨w.heap.size, 1, none⟩ = some (.slice (some ⟨b, off, none⟩) n c) ∧ w'.cell? ⟨bd, offd + j, none⟩ = some (.string s) ∧ w'.cell? ⟨b, off + k * 3 + 2, none⟩ = some (.bool u) ∧ Blk w' w.heap.size 25 #[.int .i64 v, .slice (some ⟨b, off, none⟩) n c] ∧ Below w.heap.size w w')) (by kernel_rfl) ?_ (fun hHeld => ?_)
    · exact ⟨kf.cell 0, kf.cell 1, e0, e2, kf.dr, bel_dr hW⟩
    refine wpAnyH_take (i := 0) (v := ?_) rfl (by kernel_rfl) (by kernel_rfl) (by kernel_rfl) (fun _ _ _ h => h) (Or.inl ⟨by kernel_rfl, ?_⟩) (by assumption) ?_
    rotate_left 1
    · intro w' hSw; (try dsimp only at hSw); go_simp; try with_reducible rfl
    simp only [Act.put, List.getElem_toArray, List.getElem_cons_zero, List.setIfInBounds_toArray, List.set_cons_zero, List.set_cons_succ]
    refine wpAnyH_take (i := 1) (v := ?_) rfl (by kernel_rfl) (by kernel_rfl) (by kernel_rfl) (fun _ _ _ h => h) (Or.inl ⟨by kernel_rfl, ?_⟩) (by assumption) ?_
    rotate_left 1
    · intro w' hSw; (try dsimp only at hSw); go_simp; try with_reducible rfl
    simp only [Act.put, List.getElem_toArray, List.getElem_cons_zero, List.getElem_cons_succ, List.setIfInBounds_toArray, List.set_cons_zero, List.set_cons_succ]
    refine wpAnyH_take (i := 2) (v := ?_) rfl (by kernel_rfl) (by kernel_rfl) (by kernel_rfl) (fun _ _ _ h => h) (Or.inl ⟨by kernel_rfl, ?_⟩) (by assumption) ?_
    rotate_left 1
    · intro w' hSw; (try dsimp only at hSw); go_simp; try with_reducible rfl
    simp only [Act.put, List.getElem_toArray, List.getElem_cons_zero, List.getElem_cons_succ, List.setIfInBounds_toArray, List.set_cons_zero, List.set_cons_succ]
    refine wpAnyH_take (i := 3) (v := ?_) rfl (by kernel_rfl) (by kernel_rfl) (by kernel_rfl) (fun _ _ _ h => h) (Or.inl ⟨by kernel_rfl, ?_⟩) (by assumption) ?_
    rotate_left 1
    · intro w' hSw; (try dsimp only at hSw); go_simp; try with_reducible rfl
    simp only [Act.put, List.getElem_toArray, List.getElem_cons_zero, List.getElem_cons_succ, List.setIfInBounds_toArray, List.set_cons_zero, List.set_cons_succ]
    refine wpAnyH_take (i := 4) (v := ?_) rfl (by kernel_rfl) (by kernel_rfl) (by kernel_rfl) (fun _ _ _ h => h) (Or.inl ⟨by kernel_rfl, ?_⟩) (by assumption) ?_
    rotate_left 1
    · intro w' hSw; (try dsimp only at hSw); go_simp; try with_reducible rfl
    simp only [Act.put, List.getElem_toArray, List.getElem_cons_zero, List.getElem_cons_succ, List.setIfInBounds_toArray, List.set_cons_zero, List.set_cons_succ]
    refine wpAnyH_take (i := 5) (v := ?_) rfl (by kernel_rfl) (by kernel_rfl) (by kernel_rfl) (fun _ _ _ h => h) (Or.inl ⟨by kernel_rfl, ?_⟩) (by assumption) ?_
    rotate_left 1
    · intro w' hSw; (try dsimp only at hSw); go_simp; try with_reducible rfl
    simp only [Act.put, List.getElem_toArray, List.getElem_cons_zero, List.getElem_cons_succ, List.setIfInBounds_toArray, List.set_cons_zero, List.set_cons_succ]
    refine wpAnyH_take (i := 6) (v := ?_) rfl (by kernel_rfl) (by kernel_rfl) (by kernel_rfl) (fun _ _ _ h => h) (Or.inl ⟨by kernel_rfl, ?_⟩) (by assumption) ?_
    rotate_left 1
    · intro w' hSw; (try dsimp only at hSw); go_simp; try with_reducible rfl
    simp only [Act.put, List.getElem_toArray, List.getElem_cons_zero, List.getElem_cons_succ, List.setIfInBounds_toArray, List.set_cons_zero, List.set_cons_succ]
    refine wpAnyH_take (i := 7) (v := ?_) rfl (by kernel_rfl) (by kernel_rfl) (by kernel_rfl) (fun _ _ _ h => h) (Or.inl ⟨by kernel_rfl, ?_⟩) (by assumption) ?_
    rotate_left 1
    · intro w' hSw; (try dsimp only at hSw); go_simp; try with_reducible rfl
    simp only [Act.put, List.getElem_toArray, List.getElem_cons_zero, List.getElem_cons_succ, List.setIfInBounds_toArray, List.set_cons_zero, List.set_cons_succ]
    refine wpAnyH_take (i := 8) (v := ?_) rfl (by kernel_rfl) (by kernel_rfl) (by kernel_rfl) (fun _ _ _ h => h) (Or.inl ⟨by kernel_rfl, ?_⟩) (by assumption) ?_
    rotate_left 1
    · intro w' hSw; (try dsimp only at hSw); go_simp; try with_reducible rfl
    simp only [Act.put, List.getElem_toArray, List.getElem_cons_zero, List.getElem_cons_succ, List.setIfInBounds_toArray, List.set_cons_zero, List.set_cons_succ]
    refine wpAnyH_take (i := 9) (v := ?_) rfl (by kernel_rfl) (by kernel_rfl) (by kernel_rfl) (fun _ _ _ h => h) (Or.inl ⟨by kernel_rfl, ?_⟩) (by assumption) ?_
    rotate_left 1
    · intro w' hSw; (try dsimp only at hSw); go_simp; try with_reducible rfl
    simp only [Act.put, List.getElem_toArray, List.getElem_cons_zero, List.getElem_cons_succ, List.setIfInBounds_toArray, List.set_cons_zero, List.set_cons_succ]
    refine wpAnyH_take (i := 10) (v := ?_) rfl (by kernel_rfl) (by kernel_rfl) (by kernel_rfl) (fun _ _ _ h => h) (Or.inl ⟨by kernel_rfl, ?_⟩) (by assumption) ?_
    rotate_left 1
    · intro w' hSw; (try dsimp only at hSw); go_simp; try with_reducible rfl
    simp only [Act.put, List.getElem_toArray, List.getElem_cons_zero, List.getElem_cons_succ, List.setIfInBounds_toArray, List.set_cons_zero, List.set_cons_succ]
    refine wpAnyH_take (i := 11) (v := ?_) rfl (by kernel_rfl) (by kernel_rfl) (by kernel_rfl) (fun _ _ _ h => h) (Or.inl ⟨by kernel_rfl, ?_⟩) (by assumption) ?_
    rotate_left 1
    · intro w' hSw; (try dsimp only at hSw); go_simp; try with_reducible rfl
    simp only [Act.put, List.getElem_toArray, List.getElem_cons_zero, List.getElem_cons_succ, List.setIfInBounds_toArray, List.set_cons_zero, List.set_cons_succ]
    refine wpAnyH_take (i := 12) (v := ?_) rfl (by kernel_rfl) (by kernel_rfl) (by kernel_rfl) (fun _ _ _ h => h) (Or.inl ⟨by kernel_rfl, ?_⟩) (by assumption) ?_
    rotate_left 1
    · intro w' hSw; (try dsimp only at hSw); go_simp; try with_reducible rfl
    simp only [Act.put, List.getElem_toArray, List.getElem_cons_zero, List.getElem_cons_succ, List.setIfInBounds_toArray, List.set_cons_zero, List.set_cons_succ]
    refine wpAnyH_ready (rs := [13]) (by kernel_rfl) (by simp) ?_
    refine AllReadyH.cons rfl (fun K hK => ?_) AllReadyH.nil
    go_simp
    go_at_call 65
    refine (flowAt_c v (some ⟨b, off, none⟩) n c l s _ (h.bel (by go_split_ands; assumption))).mono ?_
    rintro e w5 ⟨rfl, hb5⟩
    rw [HAT.out]
    refine hK.out _ _ ?_ (fun hHeld => ?_)
    · (go_split_ands; exact ⟨cell_on hb5 (by assumption), cell_on hb5 (by assumption), cell_on hb5 (by assumption), cell_on hb5 (by assumption), Blk.bel (by assumption) hb5, bel_nx (by assumption) hb5⟩)
    clear hK K
    try simp only [Act.put, List.getElem_toArray, List.getElem_cons_zero, List.getElem_cons_succ, List.setIfInBounds_toArray, List.set_cons_zero, List.set_cons_succ]
    refine wpAnyH_take (i := 14) (v := ?_) rfl (by kernel_rfl) (by kernel_rfl) (by kernel_rfl) (fun _ _ _ h => h) (Or.inl ⟨by kernel_rfl, ?_⟩) (by assumption) ?_
    rotate_left 1
    · intro w' hSw; (try dsimp only at hSw); go_simp; try with_reducible rfl
    simp only [Act.put, List.getElem_toArray, List.getElem_cons_zero, List.getElem_cons_succ, List.setIfInBounds_toArray, List.set_cons_zero, List.set_cons_succ]
    refine wpAnyH_take (i := 15) (v := ?_) rfl (by kernel_rfl) (by kernel_rfl) (by kernel_rfl) (fun _ _ _ h => h) (Or.inl ⟨by kernel_rfl, ?_⟩) (by assumption) ?_
    rotate_left 1
    · intro w' hSw; (try dsimp only at hSw); go_simp; try with_reducible rfl
    simp only [Act.put, List.getElem_toArray, List.getElem_cons_zero, List.getElem_cons_succ, List.setIfInBounds_toArray, List.set_cons_zero, List.set_cons_succ]
    refine wpAnyH_take (i := 16) (v := ?_) rfl (by kernel_rfl) (by kernel_rfl) (by kernel_rfl) (fun _ _ _ h => h) (Or.inl ⟨by kernel_rfl, ?_⟩) (by assumption) ?_
    rotate_left 1
    · intro w' hSw; (try dsimp only at hSw); go_simp; try with_reducible rfl
    simp only [Act.put, List.getElem_toArray, List.getElem_cons_zero, List.getElem_cons_succ, List.setIfInBounds_toArray, List.set_cons_zero, List.set_cons_succ]
    refine wpAnyH_take (i := 17) (v := ?_) rfl (by kernel_rfl) (by kernel_rfl) (by kernel_rfl) (fun _ _ _ h => h) (Or.inl ⟨by kernel_rfl, ?_⟩) (by assumption) ?_
    rotate_left 1
    · intro w' hSw; (try dsimp only at hSw); go_simp; try with_reducible rfl
    simp only [Act.put, List.getElem_toArray, List.getElem_cons_zero, List.getElem_cons_succ, List.setIfInBounds_toArray, List.set_cons_zero, List.set_cons_succ]
    refine wpAnyH_done (by kernel_rfl) ?_ _
    go_split_ands
    have hB : Below w.heap.size w w5 := by assumption
    cases u
    · go_wp2_with fail
      go_ret
      exact ⟨ret_int (by unfold backI; rw [HF.out]; rfl), hB⟩
    · go_wp2_with fail
      go_ret
      exact ⟨ret_int (by unfold backI; rw [HF.out]; rfl), hB⟩

set_option maxRecDepth 20000 in
set_option maxHeartbeats 4000000 in
theorem firm_c (v : Int) (A : Option Addr) (n c : Nat) (l : List Stp) (G : Option Addr) (gn gc : Nat) (done : List ByteArray) (w : World) (h : SlP w A n c l) (h' : SlS w G gn gc done) (hd : ∀ s ∈ done, s ∈ namesP l) : Calls Try.prog 69 #[.agg #[.int .i64 v, .slice A n c], .slice G gn gc] w fun e w' =>
    e = .returned (.int .i64 (firmP l done : Nat)) ∧ Below w.heap.size w w' := by
  have HL := Lib.hid h.len
  have HDL := Lib.hid h'.len
  have HD := Lib.hid hd
  clear hd
  have hcap := h.cap
  have hmax := h.max
  have hcap' := h'.cap
  have hmax' := h'.max
  have kf := Blk.new w 25 #[.int .i64 v, .slice A n c]
  have hW := bel_al (bel_refl w) (.cells #[.int .i64 v, .slice A n c] 25)
  go_enter Try.func69, Try.ntmps69
  go_wp2_with fail
  go_loopw [5] (fun iv wr => ∃ q : Nat, q ≤ gn ∧ iv = .int .i64 (q : Int) ∧ Hid (firmN l done q = firmP l done) ∧ Blk wr w.heap.size 25 #[.int .i64 v, .slice A n c] ∧ Below w.heap.size w wr) (fun iv _ => (intOf iv).toNat)
  case atStart => exact ⟨gn, Nat.le_refl _, rfl, Lib.hid (by unfold firmP; rw [HDL.out]), kf, hW⟩
  case round =>
    obtain ⟨q, hq, rfl, HQ, kf, hbr⟩ := hrel
    rcases Nat.eq_zero_or_pos q with hg0 | hg0
    · subst hg0
      have HF : Hid ((0 : Int) = ((firmP l done : Nat) : Int)) := Lib.hid (by rw [← HQ.out]; rfl)
      have cf := kf.cell
      go_wp2_with fail
      go_quiet (fail)
      go_wp2_with fail
      go_ret
      exact ⟨ret_int HF.out, by (repeat' first | assumption | exact bel_refl _ | refine bel_al ?_ _ | refine bel_dr ?_ | refine bel_drN ?_ _ | refine bel_nx ?_ (by assumption) | (refine bel_set ?_ (by first | omega | (simp; omega)) _))⟩
    · obtain ⟨j, rfl⟩ : ∃ j, q = j + 1 := ⟨q - 1, by omega⟩
      obtain ⟨bd, offd, s, hGd, hs, hd0⟩ := SlS.get h' (i := j) (by omega)
      subst hGd
      have hmem := HD.out s (List.mem_of_getElem? hs)
      obtain ⟨k, af, u, hat, hkl, hp, hun⟩ := atP hmem
      obtain ⟨b, off, nm, B, m, d, af2, u2, rfl, hx, hc0, hc1, hc2, haf⟩ := SlP.get h (i := k) (by rw [← HL.out]; exact hkl)
      rw [hp] at hx
      obtain ⟨rfl, rfl, rfl⟩ : s = nm ∧ af = af2 ∧ u = u2 := by simpa using hx
      have hkn : k < n := by rw [← HL.out]; exact hkl
      have HS := Lib.hid hs
      have HU := Lib.hid hun
      have HAT := Lib.hid hat
      clear hmem hat hkl hp hun hx hs haf
      have q0 : (0 : Int) ≤ (k : Int) := by omega
      have q1 : (k : Int) < (n : Int) := by omega
      have hwj : IntKind.i64.wrap (j : Int) = (j : Int) := by rw [IntKind.wrap_i64]; omega
      have dj : decide ((0 : Int) < (j : Int) + 1) = true := decide_eq_true (by omega)
      have j0 : (0 : Int) ≤ (j : Int) := by omega
      have j1 : (j : Int) < (gn : Int) := by omega
      have e0 := cell_on hbr hd0
      have e2 := cell_on hbr hc2
      go_wp2_with fail
      refine wp_region_held_drew (S := (fun w' => w'.cell? ⟨w.heap.size, 0, none⟩ = some (.int .i64 v) ∧ w'.cell? ⟨w.heap.size, 1, none⟩ = some (.slice (some ⟨b, off, none⟩) n c) ∧ w'.cell? ⟨bd, offd + j, none⟩ = some (.string s) ∧ w'.cell? ⟨b, off + k * 3 + 2, none⟩ = some (.bool u) ∧ Blk w' w.heap.size 25 #[.int .i64 v, .slice (some ⟨b, off, none⟩) n c] ∧ Below w.heap.size w w')) (by kernel_rfl) ?_ (fun hHeld => ?_)
      · exact ⟨kf.cell 0, kf.cell 1, e0, e2, kf.dr, bel_dr hbr⟩
      refine wpAnyH_take (i := 0) (v := ?_) rfl (by kernel_rfl) (by kernel_rfl) (by kernel_rfl) (fun _ _ _ h => h) (Or.inl ⟨by kernel_rfl, ?_⟩) (by assumption) ?_
      rotate_left 1
      · intro w' hSw; (try dsimp only at hSw); go_simp; try with_reducible rfl
      simp only [Act.put, List.getElem_toArray, List.getElem_cons_zero, List.setIfInBounds_toArray, List.set_cons_zero, List.set_cons_succ]
      refine wpAnyH_take (i := 1) (v := ?_) rfl (by kernel_rfl) (by kernel_rfl) (by kernel_rfl) (fun _ _ _ h => h) (Or.inl ⟨by kernel_rfl, ?_⟩) (by assumption) ?_
      rotate_left 1
      · intro w' hSw; (try dsimp only at hSw); go_simp; try with_reducible rfl
      simp only [Act.put, List.getElem_toArray, List.getElem_cons_zero, List.getElem_cons_succ, List.setIfInBounds_toArray, List.set_cons_zero, List.set_cons_succ]
      refine wpAnyH_take (i := 2) (v := ?_) rfl (by kernel_rfl) (by kernel_rfl) (by kernel_rfl) (fun _ _ _ h => h) (Or.inl ⟨by kernel_rfl, ?_⟩) (by assumption) ?_
      rotate_left 1
      · intro w' hSw; (try dsimp only at hSw); go_simp; try with_reducible rfl
      simp only [Act.put, List.getElem_toArray, List.getElem_cons_zero, List.getElem_cons_succ, List.setIfInBounds_toArray, List.set_cons_zero, List.set_cons_succ]
      refine wpAnyH_take (i := 3) (v := ?_) rfl (by kernel_rfl) (by kernel_rfl) (by kernel_rfl) (fun _ _ _ h => h) (Or.inl ⟨by kernel_rfl, ?_⟩) (by assumption) ?_
      rotate_left 1
      · intro w' hSw; (try dsimp only at hSw); go_simp; try with_reducible rfl
      simp only [Act.put, List.getElem_toArray, List.getElem_cons_zero, List.getElem_cons_succ, List.setIfInBounds_toArray, List.set_cons_zero, List.set_cons_succ]
      refine wpAnyH_take (i := 4) (v := ?_) rfl (by kernel_rfl) (by kernel_rfl) (by kernel_rfl) (fun _ _ _ h => h) (Or.inl ⟨by kernel_rfl, ?_⟩) (by assumption) ?_
      rotate_left 1
      · intro w' hSw; (try dsimp only at hSw); go_simp; try with_reducible rfl
      simp only [Act.put, List.getElem_toArray, List.getElem_cons_zero, List.getElem_cons_succ, List.setIfInBounds_toArray, List.set_cons_zero, List.set_cons_succ]
      refine wpAnyH_take (i := 5) (v := ?_) rfl (by kernel_rfl) (by kernel_rfl) (by kernel_rfl) (fun _ _ _ h => h) (Or.inl ⟨by kernel_rfl, ?_⟩) (by assumption) ?_
      rotate_left 1
      · intro w' hSw; (try dsimp only at hSw); go_simp; try with_reducible rfl
      simp only [Act.put, List.getElem_toArray, List.getElem_cons_zero, List.getElem_cons_succ, List.setIfInBounds_toArray, List.set_cons_zero, List.set_cons_succ]
      refine wpAnyH_take (i := 6) (v := ?_) rfl (by kernel_rfl) (by kernel_rfl) (by kernel_rfl) (fun _ _ _ h => h) (Or.inl ⟨by kernel_rfl, ?_⟩) (by assumption) ?_
      rotate_left 1
      · intro w' hSw; (try dsimp only at hSw); go_simp; try with_reducible rfl
      simp only [Act.put, List.getElem_toArray, List.getElem_cons_zero, List.getElem_cons_succ, List.setIfInBounds_toArray, List.set_cons_zero, List.set_cons_succ]
      refine wpAnyH_take (i := 7) (v := ?_) rfl (by kernel_rfl) (by kernel_rfl) (by kernel_rfl) (fun _ _ _ h => h) (Or.inl ⟨by kernel_rfl, ?_⟩) (by assumption) ?_
      rotate_left 1
      · intro w' hSw; (try dsimp only at hSw); go_simp; try with_reducible rfl
      simp only [Act.put, List.getElem_toArray, List.getElem_cons_zero, List.getElem_cons_succ, List.setIfInBounds_toArray, List.set_cons_zero, List.set_cons_succ]
      refine wpAnyH_take (i := 8) (v := ?_) rfl (by kernel_rfl) (by kernel_rfl) (by kernel_rfl) (fun _ _ _ h => h) (Or.inl ⟨by kernel_rfl, ?_⟩) (by assumption) ?_
      rotate_left 1
      · intro w' hSw; (try dsimp only at hSw); go_simp; try with_reducible rfl
      simp only [Act.put, List.getElem_toArray, List.getElem_cons_zero, List.getElem_cons_succ, List.setIfInBounds_toArray, List.set_cons_zero, List.set_cons_succ]
      refine wpAnyH_take (i := 9) (v := ?_) rfl (by kernel_rfl) (by kernel_rfl) (by kernel_rfl) (fun _ _ _ h => h) (Or.inl ⟨by kernel_rfl, ?_⟩) (by assumption) ?_
      rotate_left 1
      · intro w' hSw; (try dsimp only at hSw); go_simp; try with_reducible rfl
      simp only [Act.put, List.getElem_toArray, List.getElem_cons_zero, List.getElem_cons_succ, List.setIfInBounds_toArray, List.set_cons_zero, List.set_cons_succ]
      refine wpAnyH_take (i := 10) (v := ?_) rfl (by kernel_rfl) (by kernel_rfl) (by kernel_rfl) (fun _ _ _ h => h) (Or.inl ⟨by kernel_rfl, ?_⟩) (by assumption) ?_
      rotate_left 1
      · intro w' hSw; (try dsimp only at hSw); go_simp; try with_reducible rfl
      simp only [Act.put, List.getElem_toArray, List.getElem_cons_zero, List.getElem_cons_succ, List.setIfInBounds_toArray, List.set_cons_zero, List.set_cons_succ]
      refine wpAnyH_ready (rs := [11]) (by kernel_rfl) (by simp) ?_
      refine AllReadyH.cons rfl (fun K hK => ?_) AllReadyH.nil
      go_simp
      go_at_call 65
      refine (flowAt_c v (some ⟨b, off, none⟩) n c l s _ (h.bel (by go_split_ands; assumption))).mono ?_
      rintro e w5 ⟨rfl, hb5⟩
      rw [HAT.out]
      refine hK.out _ _ ?_ (fun hHeld => ?_)
      · (go_split_ands; exact ⟨cell_on hb5 (by assumption), cell_on hb5 (by assumption), cell_on hb5 (by assumption), cell_on hb5 (by assumption), Blk.bel (by assumption) hb5, bel_nx (by assumption) hb5⟩)
      clear hK K
      try simp only [Act.put, List.getElem_toArray, List.getElem_cons_zero, List.getElem_cons_succ, List.setIfInBounds_toArray, List.set_cons_zero, List.set_cons_succ]
      refine wpAnyH_take (i := 12) (v := ?_) rfl (by kernel_rfl) (by kernel_rfl) (by kernel_rfl) (fun _ _ _ h => h) (Or.inl ⟨by kernel_rfl, ?_⟩) (by assumption) ?_
      rotate_left 1
      · intro w' hSw; (try dsimp only at hSw); go_simp; try with_reducible rfl
      simp only [Act.put, List.getElem_toArray, List.getElem_cons_zero, List.getElem_cons_succ, List.setIfInBounds_toArray, List.set_cons_zero, List.set_cons_succ]
      refine wpAnyH_take (i := 13) (v := ?_) rfl (by kernel_rfl) (by kernel_rfl) (by kernel_rfl) (fun _ _ _ h => h) (Or.inl ⟨by kernel_rfl, ?_⟩) (by assumption) ?_
      rotate_left 1
      · intro w' hSw; (try dsimp only at hSw); go_simp; try with_reducible rfl
      simp only [Act.put, List.getElem_toArray, List.getElem_cons_zero, List.getElem_cons_succ, List.setIfInBounds_toArray, List.set_cons_zero, List.set_cons_succ]
      refine wpAnyH_take (i := 14) (v := ?_) rfl (by kernel_rfl) (by kernel_rfl) (by kernel_rfl) (fun _ _ _ h => h) (Or.inl ⟨by kernel_rfl, ?_⟩) (by assumption) ?_
      rotate_left 1
      · intro w' hSw; (try dsimp only at hSw); go_simp; try with_reducible rfl
      simp only [Act.put, List.getElem_toArray, List.getElem_cons_zero, List.getElem_cons_succ, List.setIfInBounds_toArray, List.set_cons_zero, List.set_cons_succ]
      refine wpAnyH_take (i := 15) (v := ?_) rfl (by kernel_rfl) (by kernel_rfl) (by kernel_rfl) (fun _ _ _ h => h) (Or.inl ⟨by kernel_rfl, ?_⟩) (by assumption) ?_
      rotate_left 1
      · intro w' hSw; (try dsimp only at hSw); go_simp; try with_reducible rfl
      simp only [Act.put, List.getElem_toArray, List.getElem_cons_zero, List.getElem_cons_succ, List.setIfInBounds_toArray, List.set_cons_zero, List.set_cons_succ]
      refine wpAnyH_done (by kernel_rfl) ?_ _
      go_split_ands
      have hB : Below w.heap.size w w5 := by assumption
      have kB : Blk w5 w.heap.size 25 #[.int .i64 v, .slice (some ⟨b, off, none⟩) n c] := by assumption
      cases u
      · have HF : Hid ((j : Int) + 1 = ((firmP l done : Nat) : Int)) := Lib.hid (by rw [← HQ.out, firmN_stop HS.out HU.out]; rfl)
        go_wp2_with fail
        go_ret
        exact ⟨ret_int HF.out, hB⟩
      · have HN : Hid (firmN l done j = firmP l done) := Lib.hid (by rw [← HQ.out, firmN_go HS.out HU.out])
        go_wp2_with fail
        go_roundw
        case rel => exact ⟨j, by omega, by go_num, HN, kB, hB⟩
        case measure => simp [intOf]

set_option maxRecDepth 20000 in
set_option maxHeartbeats 1000000 in
theorem l3Left_c (A : Option Addr) (n c : Nat) (l : List Stp) (G : Option Addr) (gn gc : Nat) (done : List ByteArray) (w : World) (h : SlP w A n c l) (h' : SlS w G gn gc done) (hd : ∀ s ∈ done, s ∈ namesP l) : Calls Try.prog 67 #[.slice A n c, .slice G gn gc] w fun e w' =>
    e = .returned (.int .i64 (firmP l done : Nat)) ∧ w = w' := by
  have HL := Lib.hid h.len
  have HDL := Lib.hid h'.len
  have HD := Lib.hid hd
  clear hd
  have hcap := h.cap
  have hmax := h.max
  have hcap' := h'.cap
  have hmax' := h'.max
  go_enter Try.func67, Try.ntmps67
  go_wp2_with fail
  go_loop [5] (fun iv => ∃ q : Nat, q ≤ gn ∧ iv = .int .i64 (q : Int) ∧ Hid (firmN l done q = firmP l done)) (fun iv => (intOf iv).toNat)
  case atStart => exact ⟨gn, Nat.le_refl _, rfl, Lib.hid (by unfold firmP; rw [HDL.out])⟩
  case round =>
    obtain ⟨q, hq, rfl, HQ⟩ := hrel
    rcases Nat.eq_zero_or_pos q with hg0 | hg0
    · subst hg0
      have HF : Hid ((0 : Int) = ((firmP l done : Nat) : Int)) := Lib.hid (by rw [← HQ.out]; rfl)
      go_wp2_with fail
      go_ret
      exact ⟨ret_int HF.out, rfl⟩
    · obtain ⟨j, rfl⟩ : ∃ j, q = j + 1 := ⟨q - 1, by omega⟩
      obtain ⟨bd, offd, s, hGd, hs, hd0⟩ := SlS.get h' (i := j) (by omega)
      subst hGd
      have hmem := HD.out s (List.mem_of_getElem? hs)
      obtain ⟨k, af, u, hat, hkl, hp, hun⟩ := atP hmem
      obtain ⟨b, off, nm, B, m, d, af2, u2, rfl, hx, hc0, hc1, hc2, haf⟩ := SlP.get h (i := k) (by rw [← HL.out]; exact hkl)
      rw [hp] at hx
      obtain ⟨rfl, rfl, rfl⟩ : s = nm ∧ af = af2 ∧ u = u2 := by simpa using hx
      have hkn : k < n := by rw [← HL.out]; exact hkl
      have HS := Lib.hid hs
      have HU := Lib.hid hun
      have HAT := Lib.hid hat
      clear hmem hat hkl hp hun hx hs haf
      have q0 : (0 : Int) ≤ (k : Int) := by omega
      have q1 : (k : Int) < (n : Int) := by omega
      have hwj : IntKind.i64.wrap (j : Int) = (j : Int) := by rw [IntKind.wrap_i64]; omega
      have dj : decide ((0 : Int) < (j : Int) + 1) = true := decide_eq_true (by omega)
      have j0 : (0 : Int) ≤ (j : Int) := by omega
      have j1 : (j : Int) < (gn : Int) := by omega
      go_wp2_with fail
      refine (l2At_z _ _ _ l s (k : Int) _ h HAT.out).mono ?_
      rintro e w5 ⟨rfl, rfl⟩
      cases u
      · have HF : Hid ((j : Int) + 1 = ((firmP l done : Nat) : Int)) := Lib.hid (by rw [← HQ.out, firmN_stop HS.out HU.out]; rfl)
        go_wp2_with fail
        go_ret
        exact ⟨ret_int HF.out, rfl⟩
      · have HN : Hid (firmN l done j = firmP l done) := Lib.hid (by rw [← HQ.out, firmN_go HS.out HU.out])
        go_wp2_with fail
        go_round
        case rel => exact ⟨j, by omega, by go_num, HN⟩
        case measure => simp [intOf]

theorem l1At_z (A : Option Addr) (n c : Nat) (l : List ByteArray) (s : ByteArray) (z : Int) (w : World) (h : SlS w A n c l) (hb : atS l s = z) : Calls Try.prog 86 #[.slice A n c, .string s] w fun e w' =>
    e = .returned (.int .i64 z) ∧ w' = w :=
  (l1At_c A n c l s w h).mono fun _ _ ⟨h1, h2⟩ => ⟨by rw [h1, hb], h2.symm⟩
theorem l1Have_q (A B : Option Addr) (n c m d : Nat) (l q : List ByteArray) (b : Bool) (w : World) (h : SlS w A n c l) (h' : SlS w B m d q) (hb : haveB l q = b) : Calls Try.prog 94 #[.slice A n c, .slice B m d] w fun e w' => e = .returned (.bool b) ∧ w' = w :=
  (l1Have_b A B n c m d l q b w h h' hb).mono fun _ _ ⟨h1, h2⟩ => ⟨h1, h2.symm⟩

set_option maxRecDepth 20000 in
set_option maxHeartbeats 2000000 in
theorem l3Order_c (A : Option Addr) (n c : Nat) (l : List Stp) (G : Option Addr) (gn gc : Nat) (done : List ByteArray) (w : World) (h : SlP w A n c l) (h' : SlS w G gn gc done) (hN : (namesP l).Nodup) : Calls Try.prog 66 #[.slice A n c, .slice G gn gc] w fun e w' =>
    e = .returned (.bool (doneB l done)) ∧ Below w.heap.size w w' := by
  have HL := Lib.hid h.len
  have HDL := Lib.hid h'.len
  have HN := Lib.hid hN
  clear hN
  have hcap := h.cap
  have hmax := h.max
  have hcap' := h'.cap
  have hmax' := h'.max
  go_enter Try.func66, Try.ntmps66
  go_wp2_with fail
  go_loopw [5] (fun iv wr => ∃ i : Nat, i ≤ gn ∧ iv = .int .i64 (i : Int) ∧ Hid (∀ j, j < i → doneAt l done j = true) ∧ Below w.heap.size w wr) (fun iv _ => gn - (intOf iv).toNat)
  case atStart => exact ⟨0, Nat.zero_le _, rfl, Lib.hid (fun j hj => by omega), bel_refl _⟩
  case round =>
    obtain ⟨i, hi, rfl, H, hbr⟩ := hrel
    by_cases hlt : i < gn
    · have hq := h'.bel hbr
      have hp := h.bel hbr
      obtain ⟨bd, offd, s, rfl, hs, hd0⟩ := SlS.get hq hlt
      have HS := Lib.hid hs
      clear hs
      have i0 : (0 : Int) ≤ (i : Int) := by omega
      have i1 : (i : Int) < (gn : Int) := by omega
      obtain ⟨z1, hz1⟩ : ∃ z, atS done s = z := ⟨_, rfl⟩
      have HZ1 := Lib.hid hz1
      have hz2 := inTake HS.out
      rw [hz1] at hz2
      clear hz1
      rcases atS_cases (namesP l) s with ⟨ha, hnm⟩ | ⟨k, ha, hk, _⟩
      · have HF := Lib.hid (doneB_no (by rw [HDL.out]; exact hlt) (doneAt_no1 HS.out hnm))
        have HA := Lib.hid ha
        clear ha hnm hz2
        go_wp2_with fail
        refine (l2At_z _ _ _ l s (-1) _ hp HA.out).mono ?_
        rintro e w5 ⟨rfl, rfl⟩
        go_wp2_with fail
        go_quiet (fail)
        go_wp2_with fail
        go_ret
        exact ⟨ret_bool HF.out.symm, by (repeat' first | assumption | exact bel_refl _ | refine bel_al ?_ _ | refine bel_dr ?_ | refine bel_drN ?_ _ | refine bel_nx ?_ (by assumption) | (refine bel_set ?_ (by first | omega | (simp; omega)) _))⟩
      · have hkl : k < l.length := by
          have := (List.getElem?_eq_some_iff.1 hk).1
          simpa [namesP] using this
        obtain ⟨b, off, nm, B, m, d, af, u, rfl, hx, hc0, hc1, hc2, haf⟩ := SlP.get hp (i := k) (by rw [← HL.out]; exact hkl)
        have hnm := namesP_at hx
        rw [hk] at hnm
        have e : s = nm := Option.some.inj hnm
        subst e
        have hkn : k < n := by rw [← HL.out]; exact hkl
        have HX := Lib.hid hx
        have HA := Lib.hid ha
        clear ha hk hkl hnm hx
        have q0 : (0 : Int) ≤ (k : Int) := by omega
        have q1 : (k : Int) < (n : Int) := by omega
        have dk : decide ((k : Int) < 0) = false := by simp
        have hic : (i : Int) ≤ (gc : Int) := by omega
        cases hin : inB (done.take i) s
        · rw [hin] at hz2
          have HIN := Lib.hid hin
          clear hin
          obtain ⟨bh, hbh⟩ : ∃ x, haveB (done.take i) af = x := ⟨_, rfl⟩
          have HB := Lib.hid hbh
          have hda := doneAt_have HN.out HS.out HX.out HIN.out
          rw [hbh] at hda
          have HDA := Lib.hid hda
          clear hbh hda
          have hqt := hq.take (m := i) (by omega)
          go_wp2_with fail
          refine (l2At_z _ _ _ l s (k : Int) _ hp HA.out).mono ?_
          rintro e w5 ⟨rfl, rfl⟩
          go_wp2_with fail
          go_quiet ((first | (go_at_call 86; exact Calls.quiet_of_same (l1At_z _ _ _ done s z1 _ (hq.drN _) HZ1.out)) | (go_at_call 94; exact Calls.quiet_of_same (l1Have_q _ _ _ _ _ _ (done.take i) af bh _ (hqt.drN _) (haf.drN _) HB.out))))
          cases bh
          · have HF := Lib.hid (doneB_no (by rw [HDL.out]; exact hlt) HDA.out)
            go_wp2_with fail
            go_ret
            exact ⟨ret_bool HF.out.symm, by (repeat' first | assumption | exact bel_refl _ | refine bel_al ?_ _ | refine bel_dr ?_ | refine bel_drN ?_ _ | refine bel_nx ?_ (by assumption) | (refine bel_set ?_ (by first | omega | (simp; omega)) _))⟩
          · have HNX := Lib.hid (upto_done H.out HDA.out)
            go_wp2_with fail
            go_roundw
            case rel => exact ⟨i + 1, by omega, by go_num, HNX, by (repeat' first | assumption | exact bel_refl _ | refine bel_al ?_ _ | refine bel_dr ?_ | refine bel_drN ?_ _ | refine bel_nx ?_ (by assumption) | (refine bel_set ?_ (by first | omega | (simp; omega)) _))⟩
            case measure => simp [intOf]; omega
        · rw [hin] at hz2
          have HF := Lib.hid (doneB_no (by rw [HDL.out]; exact hlt) (doneAt_no2 (l := l) HS.out hin))
          clear hin
          go_wp2_with fail
          refine (l2At_z _ _ _ l s (k : Int) _ hp HA.out).mono ?_
          rintro e w5 ⟨rfl, rfl⟩
          go_wp2_with fail
          go_quiet ((go_at_call 86; exact Calls.quiet_of_same (l1At_z _ _ _ done s z1 _ (hq.drN _) HZ1.out)))
          go_wp2_with fail
          go_ret
          exact ⟨ret_bool HF.out.symm, by (repeat' first | assumption | exact bel_refl _ | refine bel_al ?_ _ | refine bel_dr ?_ | refine bel_drN ?_ _ | refine bel_nx ?_ (by assumption) | (refine bel_set ?_ (by first | omega | (simp; omega)) _))⟩
    · have HF := Lib.hid (doneB_iff.2 (fun j hj => H.out j (by rw [HDL.out] at hj; omega)))
      go_wp2_with fail
      go_ret
      exact ⟨ret_bool HF.out.symm, hbr⟩

end Go.Proofs.Ytdchfiiaollheaa
