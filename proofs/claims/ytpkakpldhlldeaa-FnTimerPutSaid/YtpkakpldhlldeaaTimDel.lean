/- Timers without those of a name: the walks over slices.IndexFunc, slices.DeleteFunc and withoutTimer. -/
import Derived.Test.YtpkakpldhlldeaaTimValid
import Derived.Test.YtpkakpldhlldeaaTimAt
import Derived.Test.YtpkakpldhlldeaaOverRows
import Derived.Test.YtpkakpldhlldeaaDraw
namespace Go.Proofs.Ytpkakpldhlldeaa
open Go.RowKit

/-- The timers of other names. -/
def withF (l : List R2) (s : ByteArray) : List R2 := l.filter (fun r => ! decide (r.2 = s))
theorem withF_in {l : List R2} {s t : ByteArray} {x : Int} {k : Nat} (h : l[k]? = some (x, t)) (ht : t ≠ s) : withF (l.take (k + 1)) s = withF (l.take k) s ++ [(x, t)] := by
  unfold withF; rw [List.take_add_one, h]; simp [ht]
theorem withF_out {l : List R2} {s t : ByteArray} {x : Int} {k : Nat} (h : l[k]? = some (x, t)) (ht : t = s) : withF (l.take (k + 1)) s = withF (l.take k) s := by
  unfold withF; rw [List.take_add_one, h]; simp [ht]
theorem withF_none {l : List R2} {s : ByteArray} (H : ∀ j (r : R2), j < l.length → l[j]? = some r → r.2 ≠ s) : withF l s = l := by
  unfold withF
  rw [List.filter_eq_self]
  intro r hr
  obtain ⟨j, hj, rfl⟩ := List.mem_iff_getElem.1 hr
  simp [H j _ hj (List.getElem?_eq_getElem hj)]
theorem withF_len (l : List R2) (s : ByteArray) : (withF l s).length ≤ l.length := List.length_filter_le _ _
theorem withF_upto {l : List R2} {s : ByteArray} {k : Nat} (H : ∀ j (r : R2), j < k → l[j]? = some r → r.2 ≠ s) : withF (l.take k) s = l.take k :=
  withF_none (fun j r hj hr => by
    have hjk : j < k := by simp at hj; omega
    rw [List.getElem?_take, if_pos hjk] at hr
    exact H j r hjk hr)

theorem sameName_b (s t : ByteArray) (x : Int) (p : Addr) (b : Bool) (w : World) (hp : w.cell? p = some (.string s)) (hb : (t.toList == s.toList) = b) : Calls Try.prog 52 #[.agg #[.int .i64 x, .string t], .pointer (some p)] w fun e w' =>
    e = .returned (.bool b) ∧ Below w.heap.size w w' := by
  have HB := Lib.hid hb
  clear hb
  have hp2 := (cell_alloc_some w (.cells #[.int .i64 x, .string t] 25) p (by rw [hp]; rfl)).trans hp
  go_enter Try.func52, Try.ntmps52
  go_wp2
  go_ret
  exact ⟨ret_bool HB.out, by (repeat' first | exact bel_refl _ | refine bel_al ?_ _ | refine bel_dr ?_ | refine bel_drN ?_ _ | refine bel_nx ?_ (by assumption) | (refine bel_set ?_ (by first | omega | (simp; omega)) _))⟩

theorem atF_none_iff {l : List R2} {s : ByteArray} : atF l s = -1 ↔ ∀ r ∈ l, r.2 ≠ s := by
  unfold atF
  split
  · rename_i h
    constructor
    · intro h2; omega
    · intro h2
      rw [List.findIdx_lt_length] at h
      obtain ⟨r, hr, he⟩ := h
      exact absurd (by simpa using he) (h2 r hr)
  · rename_i h
    refine ⟨fun _ r hr hs => h ?_, fun _ => rfl⟩
    rw [List.findIdx_lt_length]
    exact ⟨r, hr, by simpa using hs⟩
theorem atF_cases (l : List R2) (s : ByteArray) : (atF l s = -1 ∧ ∀ r ∈ l, r.2 ≠ s) ∨ ∃ (k : Nat) (x : Int), atF l s = k ∧ l[k]? = some (x, s) ∧ ∀ j (r : R2), j < k → l[j]? = some r → r.2 ≠ s := by
  by_cases h : l.findIdx (fun r => decide (r.2 = s)) < l.length
  · right
    have hg := List.findIdx_getElem (xs := l) (p := fun r => decide (r.2 = s)) (w := h)
    obtain ⟨⟨x, t⟩, hr⟩ : ∃ r, l[l.findIdx (fun r => decide (r.2 = s))] = r := ⟨_, rfl⟩
    rw [hr] at hg
    obtain rfl : t = s := by simpa using hg
    refine ⟨_, x, by unfold atF; rw [if_pos h], by rw [List.getElem?_eq_getElem h, hr], fun j r hj hjr => ?_⟩
    have := List.not_of_lt_findIdx hj
    obtain ⟨hl, rfl⟩ := List.getElem?_eq_some_iff.1 hjr
    simpa using this
  · left
    have : atF l s = -1 := by unfold atF; rw [if_neg h]
    exact ⟨this, atF_none_iff.1 this⟩

set_option maxHeartbeats 400000 in
theorem indexFunc_c (A : Option Addr) (n c : Nat) (l : List R2) (s : ByteArray) (p : Addr) (w : World) (h : SlT w A n c l) (hp : w.cell? p = some (.string s)) : Calls Try.prog 59 #[.slice A n c, .func (.func 52) #[] #[.pointer (some p)]] w fun e w' =>
    e = .returned (.int .i64 (atF l s)) ∧ Below w.heap.size w w' := by
  have HL := Lib.hid h.len
  have hcap := h.cap
  have hmax := h.max
  have HP := Lib.hid hp
  clear hp
  go_enter Try.func59, Try.ntmps59
  go_wp2_with fail
  go_loopw [8] (fun i wr => ∃ k : Nat, k ≤ n ∧ i = .int .i64 k ∧ Hid (∀ j (r : R2), j < k → l[j]? = some r → r.2 ≠ s) ∧ Below w.heap.size w wr) (fun i _ => n - (intOf i).toNat)
  case atStart => exact ⟨0, Nat.zero_le _, rfl, Lib.hid (fun j r h => by omega), Below.refl _ _⟩
  case round =>
    obtain ⟨k, hk, rfl, H, hbr⟩ := hrel
    by_cases hlt : k < n
    · obtain ⟨b, off, x, t, rfl, hx, hc0, hc1⟩ := SlT.get (h.bel hbr) hlt
      have HX := Lib.hid hx
      clear hx
      have hpr := cell_later hbr HP.out
      have i0 : (0 : Int) ≤ (k : Int) := by omega
      have i1 : (k : Int) < (n : Int) := by omega
      by_cases hts : t = s
      · subst hts
        have e1 : (t.toList == t.toList) = true := by simp
        have HF := Lib.hid (atF_hit HX.out H.out)
        go_wp2_with fail
        refine (sameName_b _ _ x p true _ hpr e1).mono ?_
        rintro e w2 ⟨rfl, hb2⟩
        go_wp2_with fail
        go_ret
        exact ⟨ret_int HF.out.symm, bel_nx hbr hb2⟩
      · have e1 : (t.toList == s.toList) = false := beqS_no hts
        have HN : Hid (∀ j (r : R2), j < k + 1 → l[j]? = some r → r.2 ≠ s) := Lib.hid (fun j r hj hr => by
          rcases Nat.lt_or_ge j k with q | q
          · exact H.out j r q hr
          · obtain rfl : j = k := by omega
            rw [HX.out] at hr
            cases hr
            exact hts)
        clear hts
        go_wp2_with fail
        refine (sameName_b _ _ x p false _ hpr e1).mono ?_
        rintro e w2 ⟨rfl, hb2⟩
        go_wp2_with fail
        go_roundw
        case rel => exact ⟨k + 1, by omega, by go_num, HN, bel_nx hbr hb2⟩
        case measure => simp [intOf]; omega
    · have HF := Lib.hid (atF_miss (l := l) (s := s) (fun j r hj hr => H.out j r (by rw [HL.out] at hj; omega) hr))
      go_wp2_with fail
      go_ret
      exact ⟨ret_int HF.out.symm, hbr⟩

theorem one_TL (l : List R2) (u : Value) (hu : u ∈ l.flatMap encT) : u.oneCell' = true := by
  obtain ⟨a, _, ha⟩ := List.mem_flatMap.1 hu; exact one_T a u ha

theorem del_keep {l m : List R2} {s t : ByteArray} {x : Int} {i j n : Nat} (hij : i < j) (hj : j < n) (hl : l.length = n) (h : m.length = n ∧ m.take i = withF (l.take j) s ∧ m.drop j = l.drop j) (hx : m[j]? = some (x, t)) (ht : t ≠ s) :
    (m.set i (x, t)).length = n ∧ (m.set i (x, t)).take (i + 1) = withF (l.take (j + 1)) s ∧ (m.set i (x, t)).drop (j + 1) = l.drop (j + 1) := by
  have hlj : l[j]? = some (x, t) := by
    have := congrArg (fun q => q[0]?) h.2.2
    simp only [List.getElem?_drop, Nat.add_zero] at this
    rw [← this]; exact hx
  refine ⟨by simp [h.1], ?_, ?_⟩
  · rw [withF_in hlj ht, ← h.2.1, List.take_succ_eq_append_getElem (by simp; omega), List.getElem_set_self, List.take_set_of_le (Nat.le_refl _)]
  · rw [List.drop_set_of_lt (by omega), ← List.drop_drop, ← List.drop_drop, h.2.2]
theorem del_skip {l m : List R2} {s t : ByteArray} {x : Int} {i j n : Nat} (h : m.length = n ∧ m.take i = withF (l.take j) s ∧ m.drop j = l.drop j) (hx : m[j]? = some (x, t)) (ht : t = s) :
    m.length = n ∧ m.take i = withF (l.take (j + 1)) s ∧ m.drop (j + 1) = l.drop (j + 1) := by
  have hlj : l[j]? = some (x, t) := by
    have := congrArg (fun q => q[0]?) h.2.2
    simp only [List.getElem?_drop, Nat.add_zero] at this
    rw [← this]; exact hx
  refine ⟨h.1, ?_, ?_⟩
  · rw [withF_out hlj ht, ← h.2.1]
  · rw [← List.drop_drop, ← List.drop_drop, h.2.2]

set_option maxRecDepth 100000 in
set_option maxHeartbeats 2000000 in
theorem deleteFunc_c (B n : Nat) (A : Option Addr) (c : Nat) (l : List R2) (s : ByteArray) (p : Addr) (w : World) (hown : w.ownsRow B 25 2 (.slice A n c) n (l.flatMap encT)) (hp : w.cell? p = some (.string s)) (hpo : (Value.slice A n c).ownBlock ≠ some p.block) : Calls Try.prog 51 #[.slice A n c, .func (.func 52) #[] #[.pointer (some p)]] w fun e w' =>
    ∃ k, e = .returned (.slice A k c) ∧ w'.ownsRow B 25 2 (.slice A k c) k ((withF l s).flatMap encT) ∧ w.grownBy w' (Value.slice A n c).ownBlock := by
  have hs := SlT.of_own hown
  have HL := Lib.hid hs.len
  have hcap := hs.cap
  have hmax := hs.max
  have hpl : p.block < w.heap.size := World.block_lt_of_cell? w p hp
  go_enter Try.func51, Try.ntmps51
  go_wp2_with fail
  refine (indexFunc_c A n c l s p _ hs hp).mono ?_
  rintro e w1 ⟨rfl, hb1⟩
  have hown1 := own_bel hown hb1
  have hp1 := cell_later hb1 hp
  rcases atF_cases l s with ⟨ha, hall⟩ | ⟨k, x0, ha, hk, H⟩
  · have hw : withF l s = l := withF_none (fun j r _ hr => hall r (List.mem_of_getElem? hr))
    have HW := Lib.hid hw
    clear hall hw
    rw [ha]
    go_wp2_with fail
    go_ret
    rw [HW.out]
    exact ⟨n, rfl, hown1, ⟨hb1.os, hb1.tape, hb1.output, hb1.size, fun k hk _ => hb1.block k hk⟩⟩
  have hkn : k < n := by rw [← HL.out]; exact (List.getElem?_eq_some_iff.1 hk).1
  obtain ⟨g, cap, hA, hgB, hgL⟩ := hown.form (by omega)
  obtain ⟨rfl, _, rfl⟩ := slice_inj hA
  have hgp : g ≠ p.block := fun e => hpo (by rw [e]; rfl)
  have h0 : Hid (l.length = n ∧ l.take k = withF (l.take (k + 1)) s ∧ l.drop (k + 1) = l.drop (k + 1)) := Lib.hid ⟨HL.out, by rw [withF_out hk rfl, withF_upto H], rfl⟩
  have hg1 : w.grownBy w1 (some g) := ⟨hb1.os, hb1.tape, hb1.output, hb1.size, fun k hk _ => hb1.block k hk⟩
  rw [ha]
  clear ha hk H hs hpo
  have ek : ((k : Int) == -1) = false := by simp
  go_wp2_with fail
  go_loopw [5, 6] (fun iv jv wr => ∃ (i j : Nat) (m : List R2), i < j ∧ j ≤ n ∧ iv = .int .i64 (i : Int) ∧ jv = .int .i64 (j : Int) ∧ Hid (m.length = n ∧ m.take i = withF (l.take j) s ∧ m.drop j = l.drop j) ∧ wr.ownsRow B 25 2 (.slice (some ⟨g, 0, none⟩) n c) n (m.flatMap encT) ∧ w.grownBy wr (some g) ∧ wr.cell? p = some (.string s)) (fun _ jv _ => n - (intOf jv).toNat)
  case atStart => exact ⟨k, k + 1, l, by omega, by omega, by go_num, by go_num, Lib.hid ⟨HL.out, h0.out.2.1, rfl⟩, hown1, hg1, hp1⟩
  case round =>
    obtain ⟨i, j, m, hij, hj, rfl, rfl, HM, ho, hg, hpr⟩ := hrel
    by_cases hlt : j < n
    · obtain ⟨b, off, x, t, hA, hx, hc0, hc1⟩ := SlT.get (SlT.of_own ho) hlt
      cases hA
      have HX := Lib.hid hx
      clear hx
      simp only [Nat.zero_add] at hc0 hc1
      have i0 : (0 : Int) ≤ (j : Int) := by omega
      have i1 : (j : Int) < (n : Int) := by omega
      have kb := Blk.new wr 25 #[.int .i64 x, .string t]
      have hoA := ho.alloc (.cells #[.int .i64 x, .string t] 25)
      have hpA := (cell_alloc_some wr (.cells #[.int .i64 x, .string t] 25) p (by rw [hpr]; rfl)).trans hpr
      have hgA := hg.trans (World.grownBy_alloc wr (.cells #[.int .i64 x, .string t] 25) (some g))
      have cb0 := kb.cell 0
      have cb1 := kb.cell 1
      by_cases hts : t = s
      · have e1 : (t.toList == s.toList) = true := by rw [hts]; simp
        have HN := Lib.hid (del_skip HM.out HX.out hts)
        clear hts
        go_wp2_with fail
        refine (sameName_b _ _ x p true _ hpA e1).mono ?_
        rintro e w2 ⟨rfl, hb2⟩
        have hp2 := cell_later hb2 hpA
        go_wp2_with fail
        go_roundw
        case rel => exact ⟨i, j + 1, m, by omega, by omega, rfl, by go_num, HN, own_bel hoA hb2, gr_below hgA hb2, hp2⟩
        case measure => simp [intOf]; omega
      · have e1 : (t.toList == s.toList) = false := beqS_no hts
        have HN := Lib.hid (del_keep hij hlt HL.out HM.out HX.out hts)
        clear hts
        go_wp2_with fail
        refine (sameName_b _ _ x p false _ hpA e1).mono ?_
        rintro e w2 ⟨rfl, hb2⟩
        have hp2 := cell_later hb2 hpA
        have ho2 := own_bel hoA hb2
        have hg2 := gr_below hgA hb2
        have kb2 := kb.bel hb2
        have cc0 := kb2.cell 0
        have cc1 := kb2.cell 1
        obtain ⟨⟨u0, hd0⟩, hf0⟩ := own_at ho2 (j := i * 2) (by omega)
        obtain ⟨⟨u1, hd1⟩, hf1⟩ := own_at ho2 (j := i * 2 + 1) (by omega)
        have j0 : (0 : Int) ≤ (i : Int) := by omega
        have j1 : (i : Int) < (n : Int) := by omega
        go_wp2_with fail
        go_roundw
        case rel => exact ⟨i + 1, j + 1, m.set i (x, t), by omega, by omega, by go_num, by go_num, HN, own_set2 ho2 i x t, gr_at (gr_at hg2 _ _) _ _, ((pcell (gr_at (gr_at (gr_refl w2 (some g)) _ _) _ _)).1 p (by rw [hp2]; rfl) (Ne.symm hgp)).trans hp2⟩
        case measure => simp [intOf]; omega
    · obtain rfl : j = n := by omega
      obtain ⟨cur, hblk, hB, hc1, hc2, hcl, hct⟩ := own_blk ho
      have hzl : (Builtin.zeroCells (Value.agg #[.int .i64 0, .string ByteArray.empty]).cells (j - i)).toList.length = (j - i) * 2 := by simp [Builtin.zeroCells, Value.cells]
      have hclr := run_clear_cells (P := Try.prog) wr 23 25 0 (.agg #[.int .i64 0, .string ByteArray.empty]) Try.underlying23 (fun _ => by kernel_rfl) (by decide) g (i * 2) (j - i) (c - i) (by omega)
        (fun q hq => (blk_free hblk (by simp [Value.cells] at hq; omega)).1) (fun q hq => (blk_free hblk (by simp [Value.cells] at hq; omega)).2)
      have hfin := Blk.puts (Builtin.zeroCells (Value.agg #[.int .i64 0, .string ByteArray.empty]).cells (j - i)).toList (i * 2) wr cur (by rw [hzl]; omega) hblk
      have hgf := hg.trans (gr_puts g (Builtin.zeroCells (Value.agg #[.int .i64 0, .string ByteArray.empty]).cells (j - i)).toList (i * 2) wr)
      obtain ⟨vs, hvs⟩ : ∃ vs, (Builtin.zeroCells (Value.agg #[.int .i64 0, .string ByteArray.empty]).cells (j - i)).toList = vs := ⟨_, rfl⟩
      rw [hvs] at hclr hfin hzl hgf
      have HZ := Lib.hid hzl
      have HFN := Lib.hid hfin
      have HCL := Lib.hid hcl
      have HCT := Lib.hid hct
      clear hzl hfin hcl hct hvs hblk
      have m1 : ¬ c = i := by omega
      have m2 : i ≤ j := by omega
      have m3 : (i : Int) ≤ (j : Int) := by omega
      have m4 : (0 : Int) ≤ (i : Int) := by omega
      have m5 : (i : Int) ≤ (c : Int) := by omega
      have m6 : i ≤ c := by omega
      go_wp2_with fail
      go_ret
      have hzl := HZ.out
      have hcl := HCL.out
      refine ⟨i, rfl, own_mk HFN.out hB (by omega) hc2 ?_ ?_ ?_, hgf⟩
      · rw [putL_len (by rw [hzl]; omega)]; exact hcl
      · rw [take_putL_lt (by omega) (Nat.le_refl _)]
        have hm := HM.out
        rw [List.take_of_length_le (show l.length ≤ j by rw [HL.out]; omega)] at hm
        rw [← hm.2.1, ← flat_take (k := 2) (fun _ => rfl), ← HCT.out, List.take_take, Nat.min_eq_left (by omega)]
      · have hm := HM.out
        rw [List.take_of_length_le (show l.length ≤ j by rw [HL.out]; omega)] at hm
        rw [← hm.2.1, flat_len (k := 2) (fun _ => rfl), List.length_take, hm.1]
        omega

end Go.Proofs.Ytpkakpldhlldeaa
