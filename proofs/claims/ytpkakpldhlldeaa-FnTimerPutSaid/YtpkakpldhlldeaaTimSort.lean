/- Timers sorted: the walks over slices.SortFunc at 12 timers or fewer. -/
import Derived.Test.YtpkakpldhlldeaaTimCmp
import Derived.Test.YtpkakpldhlldeaaOverRows
import Derived.Test.YtpkakpldhlldeaaTimS
import Derived.Test.YtpkakpldhlldeaaDraw
import Derived.RegionTactic
import Derived.BigRegion
namespace Go.Proofs.Ytpkakpldhlldeaa
open Go.RowKit

/-- The element at place p is brought ahead as far as it goes. -/
def sinkF : Nat → List R2 → List R2
  | 0, l => l
  | p + 1, l => match l[p]?, l[p + 1]? with
    | some a, some b => if ltT b a = true then sinkF p ((l.set (p + 1) a).set p b) else l
    | _, _ => l
theorem sinkF_len : ∀ (p : Nat) (l : List R2), (sinkF p l).length = l.length
  | 0, l => rfl
  | p + 1, l => by
    unfold sinkF
    split
    · split
      · rw [sinkF_len p]; simp
      · rfl
    · rfl
theorem sinkF_go {l : List R2} {p : Nat} {a b : R2} (ha : l[p]? = some a) (hb : l[p + 1]? = some b) (h : ltT b a = true) : sinkF (p + 1) l = sinkF p ((l.set (p + 1) a).set p b) := by
  simp [sinkF, ha, hb, h]
theorem sinkF_stay {l : List R2} {p : Nat} {a b : R2} (ha : l[p]? = some a) (hb : l[p + 1]? = some b) (h : ltT b a = false) : sinkF (p + 1) l = l := by
  simp [sinkF, ha, hb, h]

/-- The sort from place i on; f more are to come. -/
def isortF : Nat → Nat → List R2 → List R2
  | 0, _, l => l
  | f + 1, i, l => isortF f (i + 1) (sinkF i l)
theorem isortF_step {n i : Nat} (h : i < n) (l : List R2) : isortF (n - i) i l = isortF (n - (i + 1)) (i + 1) (sinkF i l) := by
  obtain ⟨f, hf⟩ : ∃ f, n - i = f + 1 := ⟨n - i - 1, by omega⟩
  rw [hf, show n - (i + 1) = f by omega]
  rfl

theorem cmpTim_b (s s' : ByteArray) (x x' : Int) (b : Bool) (w : World) (h : ltT (x, s) (x', s') = b) : Calls Try.prog 41 #[.agg #[.int .i64 x, .string s], .agg #[.int .i64 x', .string s']] w fun e w' =>
    ∃ q : Int, e = .returned (.int .i64 q) ∧ decide (q < 0) = b ∧ Below w.heap.size w w' :=
  (compareTimers_c x x' s s' w).mono fun e w' ⟨h1, h2⟩ => ⟨_, h1, by rw [← h, ← cmpTim_lt], h2⟩

set_option maxRecDepth 20000 in
set_option maxHeartbeats 2000000 in
theorem insertionSort_c (B g n c : Nat) (l : List R2) (w : World) (hown : w.ownsRow B 25 2 (.slice (some ⟨g, 0, none⟩) n c) n (l.flatMap encT)) (h12 : n ≤ 12) (hl : l.length = n) :
    Calls Try.prog 60 #[.slice (some ⟨g, 0, none⟩) n c, .int .i64 0, .int .i64 n, .func (.func 41) #[] #[]] w fun e w' =>
    e = .returned (.tuple #[]) ∧ w'.ownsRow B 25 2 (.slice (some ⟨g, 0, none⟩) n c) n ((isortF (n - 1) 1 l).flatMap encT) ∧ w.grownBy w' (some g) := by
  have HL := Lib.hid hl
  clear hl
  have hs0 := SlT.of_own hown
  have hcap := hs0.cap
  have hmax := hs0.max
  clear hs0
  go_enter Try.func60, Try.ntmps60
  go_wp2_with fail
  go_loopw [8] (fun i wr => ∃ (k : Nat) (m : List R2), 1 ≤ k ∧ k ≤ n + 1 ∧ i = .int .i64 k ∧ Hid (m.length = n ∧ isortF (n - k) k m = isortF (n - 1) 1 l) ∧ wr.ownsRow B 25 2 (.slice (some ⟨g, 0, none⟩) n c) n (m.flatMap encT) ∧ w.grownBy wr (some g)) (fun i _ => n + 1 - (intOf i).toNat)
  case atStart => exact ⟨1, l, by omega, by omega, rfl, Lib.hid ⟨HL.out, rfl⟩, hown, World.grownBy.refl w _⟩
  case round =>
    obtain ⟨k, m, hk1, hk2, rfl, HM, ho, hg⟩ := hrel
    obtain ⟨wo, hwo⟩ : ∃ wo : World, wo = wr := ⟨_, rfl⟩
    subst hwo
    by_cases hlt : k < n
    · go_wp2_with fail
      go_loopw [9] (fun i2 w2 => ∃ (j : Nat) (m2 : List R2), j ≤ k ∧ i2 = .int .i64 j ∧ Hid (m2.length = n ∧ sinkF j m2 = sinkF k m) ∧ w2.ownsRow B 25 2 (.slice (some ⟨g, 0, none⟩) n c) n (m2.flatMap encT) ∧ w.grownBy w2 (some g)) (fun i2 _ => (intOf i2).toNat)
      case atStart => exact ⟨k, m, Nat.le_refl _, rfl, Lib.hid ⟨HM.out.1, rfl⟩, ho, hg⟩
      case round =>
        obtain ⟨j, m2, hj, rfl, HS, ho2, hg2⟩ := hrel
        clear ho
        rcases j with _ | p
        · go_wp2_with fail
          go_quiet (fail)
          go_wp2_with fail
          go_roundw
          case rel =>
            have hm := HM.out
            have hs := HS.out
            refine ⟨k + 1, m2, by omega, by omega, by go_num, Lib.hid ⟨hs.1, ?_⟩, ho2, ?_⟩
            · rw [← hm.2, isortF_step hlt, ← hs.2]; rfl
            · exact gr_drN hg2 _
          case measure => simp [intOf]; omega
        · have hml := HS.out.1
          obtain ⟨b1, off1, x, s, hA, hx, hc0, hc1⟩ := SlT.get (SlT.of_own ho2) (i := p) (by omega)
          cases hA
          obtain ⟨b2, off2, x', s', hA, hy, hd0, hd1⟩ := SlT.get (SlT.of_own ho2) (i := p + 1) (by omega)
          cases hA
          simp only [Nat.zero_add] at hc0 hc1 hd0 hd1
          have HX := Lib.hid hx
          have HY := Lib.hid hy
          clear hx hy hml
          obtain ⟨q, hq⟩ : ∃ q, ltT (x', s') (x, s) = q := ⟨_, rfl⟩
          have HQ := Lib.hid hq
          clear hq
          have p0 : (0 : Int) ≤ (p : Int) := by omega
          have p1 : (p : Int) < (n : Int) := by omega
          have p2 : (p : Int) + 1 < (n : Int) := by omega
          have p3 : (0 : Int) ≤ (p : Int) + 1 := by omega
          have d0 : decide ((0 : Int) < (p : Int) + 1) = true := decide_eq_true (by omega)
          have q0 : p < n := by omega
          have q1 : p + 1 < n := by omega
          have ew : IntKind.i64.wrap ((p : Int) + 1 - 1) = (p : Int) := by rw [IntWalk.i64_in _ (by omega)]; omega
          have ew2 : IntKind.i64.wrap (p : Int) = (p : Int) := IntWalk.i64_in _ (by omega)
          go_wp2_with fail
          go_region_held3 (fun w' => w'.cell? ⟨g, p * 2, none⟩ = some (.int .i64 x) ∧ w'.cell? ⟨g, p * 2 + 1, none⟩ = some (.string s) ∧ w'.cell? ⟨g, (p + 1) * 2, none⟩ = some (.int .i64 x') ∧ w'.cell? ⟨g, (p + 1) * 2 + 1, none⟩ = some (.string s'))
            (first | go_keep | exact ⟨hc0, hc1, hd0, hd1⟩ | exact ⟨cell_later hb3 hc0, cell_later hb3 hc1, cell_later hb3 hd0, cell_later hb3 hd1⟩)
            ((first | (go_at_call 41; refine (cmpTim_b s' s x' x q _ HQ.out).mono ?_; rintro e w3 ⟨u, rfl, hu, hb3⟩)))
          clear ew ew2
          have ho3 := own_bel (w := wr.drew) ho2 hb3
          have hg3 := gr_below (gr_dr1 hg2) hb3
          cases q
          · go_wp2_with fail
            go_roundw
            case rel =>
              have hm := HM.out
              have hs := HS.out
              refine ⟨k + 1, m2, by omega, by omega, by go_num, Lib.hid ⟨hs.1, ?_⟩, ho3, hg3⟩
              rw [← hm.2, isortF_step hlt, ← hs.2, sinkF_stay HX.out HY.out HQ.out]
            case measure => simp [intOf]; omega
          · go_wp2_with fail
            have e0 := cell_later hb3 (show wr.drew.cell? _ = _ from hc0)
            have e1 := cell_later hb3 (show wr.drew.cell? _ = _ from hc1)
            have f0 := cell_later hb3 (show wr.drew.cell? _ = _ from hd0)
            have f1 := cell_later hb3 (show wr.drew.cell? _ = _ from hd1)
            have z0 := ho3.frozenAt
            have ew : IntKind.i64.wrap ((p : Int) + 1 - 1) = (p : Int) := by rw [IntWalk.i64_in _ (by omega)]; omega
            have ew2 : IntKind.i64.wrap (p : Int) = (p : Int) := IntWalk.i64_in _ (by omega)
            go_region
            clear ew ew2
            go_wp2_with fail
            go_roundw
            case rel =>
              have hs := HS.out
              refine ⟨p, (m2.set (p + 1) (x, s)).set p (x', s'), by omega, rfl, Lib.hid ⟨by simp [hs.1], ?_⟩, ?_, ?_⟩
              · rw [← hs.2, sinkF_go HX.out HY.out HQ.out]
              · exact own_dr (own_set2 (own_set2 ho3 (p + 1) x s) p x' s')
              · exact gr_dr1 (gr_at (gr_at (gr_at (gr_at hg3 _ _) _ _) _ _) _ _)
            case measure => simp [intOf]
    · go_wp2_with fail
      go_end0
      have hm := HM.out
      rw [show n - k = 0 by omega] at hm
      refine ⟨rfl, ?_, hg⟩
      rw [← hm.2]
      exact ho

set_option maxRecDepth 100000 in
set_option maxHeartbeats 1000000 in
theorem bitsLen64_c (x : Int) (w : World) (h0 : 0 ≤ x) (h1 : x ≤ 12) : Calls Try.prog 69 #[.int .u64 x] w fun e w' => (∃ u : Int, e = .returned (.int .i64 u)) ∧ w = w' := by
  go_enter Try.func69, Try.ntmps69
  go_wp2
  go_ret
  exact ⟨⟨_, rfl⟩, rfl⟩

theorem bitsLen_c (x : Int) (w : World) (h0 : 0 ≤ x) (h1 : x ≤ 12) : Calls Try.prog 54 #[.int .u64 x] w fun e w' => (∃ u : Int, e = .returned (.int .i64 u)) ∧ w = w' := by
  go_enter Try.func54, Try.ntmps54
  go_wp2_with (go_at_call 69; refine (bitsLen64_c _ _ h0 h1).mono ?_; rintro e w2 ⟨⟨u, rfl⟩, rfl⟩)
  go_ret
  exact ⟨⟨_, rfl⟩, rfl⟩

set_option maxRecDepth 100000 in
set_option maxHeartbeats 1000000 in
theorem pdqsort_c (B g n c : Nat) (u : Int) (l : List R2) (w : World) (hown : w.ownsRow B 25 2 (.slice (some ⟨g, 0, none⟩) n c) n (l.flatMap encT)) (h12 : n ≤ 12) (hl : l.length = n) :
    Calls Try.prog 53 #[.slice (some ⟨g, 0, none⟩) n c, .int .i64 0, .int .i64 n, .int .i64 u, .func (.func 41) #[] #[]] w fun e w' =>
    e = .returned (.tuple #[]) ∧ w'.ownsRow B 25 2 (.slice (some ⟨g, 0, none⟩) n c) n ((isortF (n - 1) 1 l).flatMap encT) ∧ w.grownBy w' (some g) := by
  have n1 : (n : Int) ≤ 12 := by omega
  go_enter Try.func53, Try.ntmps53
  go_wp2_with fail
  refine wp_loop_rounds 1 ?_
  rw [rounds_succ]
  go_wp2_with (go_at_call 60; refine (insertionSort_c B g n c l _ hown h12 hl).mono ?_; rintro e w2 ⟨rfl, ho2, hg2⟩)
  exact bodyPost_ret (results_none rfl _ _ _) rfl ⟨rfl, ho2, hg2⟩

set_option maxRecDepth 20000 in
theorem sortFunc_c (B g n c : Nat) (l : List R2) (w : World) (hown : w.ownsRow B 25 2 (.slice (some ⟨g, 0, none⟩) n c) n (l.flatMap encT)) (h12 : n ≤ 12) (hl : l.length = n) :
    Calls Try.prog 40 #[.slice (some ⟨g, 0, none⟩) n c, .func (.func 41) #[] #[]] w fun e w' =>
    e = .returned (.tuple #[]) ∧ w'.ownsRow B 25 2 (.slice (some ⟨g, 0, none⟩) n c) n ((isortF (n - 1) 1 l).flatMap encT) ∧ w.grownBy w' (some g) := by
  have n0 : (0 : Int) ≤ (n : Int) := by omega
  have n1 : (n : Int) ≤ 12 := by omega
  go_enter Try.func40, Try.ntmps40
  go_wp2_with fail
  refine (bitsLen_c n _ n0 n1).mono ?_
  rintro e w2 ⟨⟨u, rfl⟩, rfl⟩
  go_wp2_with fail
  refine (pdqsort_c B g n c u l _ hown h12 hl).mono ?_
  rintro e w2 ⟨rfl, ho2, hg2⟩
  go_wp2_with fail
  go_end0
  exact ⟨rfl, ho2, hg2⟩

end Go.Proofs.Ytpkakpldhlldeaa
