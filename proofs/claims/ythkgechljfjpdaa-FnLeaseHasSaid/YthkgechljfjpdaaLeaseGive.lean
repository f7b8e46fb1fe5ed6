/- A lease is given back: the walks over slices.Delete at leases, and over both LeaseGive. -/
import Derived.Test.YthkgechljfjpdaaOverRows
import Derived.Test.YthkgechljfjpdaaLeaseHas
namespace Go.Proofs.Ythkgechljfjpdaa
open Go.RowKit

theorem one_R (a : R3) (u : Value) (hu : u ∈ encR a) : u.oneCell' = true := by simp [encR] at hu; rcases hu with rfl | rfl | rfl <;> rfl
theorem one_RL (l : List R3) (u : Value) (hu : u ∈ l.flatMap encR) : u.oneCell' = true := by
  obtain ⟨a, _, ha⟩ := List.mem_flatMap.1 hu; exact one_R a u ha

set_option maxRecDepth 100000 in
set_option maxHeartbeats 1000000 in
theorem delete_c (B g i d c : Nat) (l : List R3) (w : World) (hown : w.ownsRow B 45 3 (.slice (some ⟨g, 0, none⟩) (i + d + 1) c) (i + d + 1) (l.flatMap encR)) : Calls Try.prog 50 #[.slice (some ⟨g, 0, none⟩) (i + d + 1) c, .int .i64 i, .int .i64 ((i : Int) + 1)] w fun e w' =>
    e = .returned (.slice (some ⟨g, 0, none⟩) (i + d) c) ∧ w'.ownsRow B 45 3 (.slice (some ⟨g, 0, none⟩) (i + d) c) (i + d) ((l.take i ++ l.drop (i + 1)).flatMap encR) ∧ w.grownBy w' (some g) := by
  have hs := SlR.of_own hown
  have hcap := hs.cap
  have hmax := hs.max
  obtain ⟨i0, hi0, hz0, hz1, hz2⟩ := info_parts rec_info
  have k0 : (0 : Int) ≤ (i : Int) := by omega
  have k1 : (i : Int) + 1 ≤ ((i + d + 1 : Nat) : Int) := by omega
  go_enter Try.func50, Try.ntmps50
  go_wp2_with fail
  have hsD := hs.drop (m := i + 1) (by omega)
  obtain ⟨ad, hAD⟩ : ∃ ad, (if c = i + 1 then some (⟨g, 0, none⟩ : Addr) else some ⟨g, (i + 1) * 3, none⟩) = some ad := by split <;> exact ⟨_, rfl⟩
  rw [Nat.zero_add, hAD] at hsD
  have HC := Lib.hid (Sl.cells (k := 3) (fun _ => rfl) (by omega) hsD.dr rfl)
  obtain ⟨cur, hblk, hB, hc1, hc2, hcl, hct⟩ := own_blk hown
  have hln := hs.len
  have hll : ((l.drop (i + 1)).flatMap encR).length = d * 3 := by rw [flat_len (k := 3) (fun _ => rfl), List.length_drop]; omega
  have HN := Lib.hid hll
  have HS : Hid (∀ j, j < ((l.drop (i + 1)).flatMap encR).length → (w.drew.cell? ⟨g, 0 + i * 3 + j, none⟩).isSome = true ∧ w.drew.frozen? ⟨g, 0 + i * 3 + j, none⟩ = false) := Lib.hid (fun j hj => blk_free (cs := cur) (w := w.drew) hblk (by rw [hll] at hj; omega))
  have hb1 := Blk.puts ((l.drop (i + 1)).flatMap encR) (i * 3) w.drew cur (by rw [hll]; omega) hblk
  have hl1 : (putL cur (i * 3) ((l.drop (i + 1)).flatMap encR)).length = cur.length := putL_len (by rw [hll]; omega)
  obtain ⟨cur1, hcur1⟩ : ∃ x, x = putL cur (i * 3) ((l.drop (i + 1)).flatMap encR) := ⟨_, rfl⟩
  rw [← hcur1] at hb1 hl1
  have hclr := run_clear_cells (P := Try.prog) (w.drew.setCells g (i * 3) ((l.drop (i + 1)).flatMap encR)) 23 45 0 (.agg #[.string ByteArray.empty, .int .i64 0, .int .i64 0]) Try.underlying23 (fun _ => by kernel_rfl) (by decide) g ((i + d) * 3) 1 (c - (i + d)) (by omega)
    (fun j hj => (blk_free hb1 (by simp [Value.cells] at hj; omega)).1) (fun j hj => (blk_free hb1 (by simp [Value.cells] at hj; omega)).2)
  have HCL := Lib.hid hclr
  have HB1 := Lib.hid hb1
  have HL1 := Lib.hid hl1
  have HCU := Lib.hid hcur1
  have HCE := Lib.hid hcl
  have HCT := Lib.hid hct
  clear hsD hb1 hl1 hcur1 hclr hll hln hct hcl
  have n1 : i ≤ c := by omega
  have n2 : i + 1 ≤ i + d + 1 := by omega
  have n3 : i + d + 1 ≤ c := by omega
  have n4 : i + 1 ≤ c := by omega
  have n5 : (0 : Int) ≤ (i : Int) + 1 := by omega
  have n6 : ((i : Int) + 1).toNat = i + 1 := by omega
  have n7 : (i : Int) ≤ (c : Int) := by omega
  have n8 : (i : Int) + 1 ≤ (c : Int) := by omega
  have n9 : (i : Int) + 1 ≤ (i : Int) + (d : Int) + 1 := by omega
  have n10 : i + d ≤ c := by omega
  go_region_law (refine step_append_room (by rfl) _ _ 23 (by rfl) 45 i0 3 Try.underlying23 hi0 hz1 g 0 i c (by rfl) ad d (c - (i + 1)) ((l.drop (i + 1)).flatMap encR) (by rfl) HN.out HC.out (one_RL _) n10 HS.out ?_)
  clear hAD n6 n1 n2 n4 n5 n7 n8 n9 hi0 hz0 hz1 hz2 hown hblk
  have m1 : ¬ c = i + d := by omega
  have m2 : i + d ≤ i + d + 1 := by omega
  have m3 : (i : Int) + (d : Int) ≤ (i : Int) + (d : Int) + 1 := by omega
  have m4 : (0 : Int) ≤ (i : Int) + (d : Int) := by omega
  have m5 : (i : Int) + (d : Int) + 1 ≤ (c : Int) := by omega
  generalize hW : w.drew.setCells g (i * 3) ((l.drop (i + 1)).flatMap encR) = W at HCL HB1 ⊢
  have HW := Lib.hid hW
  clear hW
  have hclr := HCL.out
  go_wp2_with fail
  go_ret
  have hzl : (Builtin.zeroCells (Value.agg #[.string ByteArray.empty, .int .i64 0, .int .i64 0]).cells 1).toList.length = 3 := by simp [Builtin.zeroCells, Value.cells]
  have h1 := HB1.out
  have hl1 := HL1.out
  have hce := HCE.out
  have hnl := HN.out
  have h2 := Blk.puts (Builtin.zeroCells (Value.agg #[.string ByteArray.empty, .int .i64 0, .int .i64 0]).cells 1).toList ((i + d) * 3) W cur1 (by rw [hzl]; omega) h1
  refine ⟨rfl, own_mk h2 hB (by omega) hc2 ?_ ?_ ?_, ?_⟩
  · rw [putL_len (by rw [hzl]; omega)]; omega
  · rw [take_putL_lt (by omega) (Nat.le_refl _), HCU.out, show (i + d) * 3 = i * 3 + ((l.drop (i + 1)).flatMap encR).length by rw [hnl]; omega, take_putL (by omega), List.flatMap_append]
    congr 1
    have := HCT.out
    rw [← flat_take (k := 3) (fun _ => rfl), ← this, List.take_take, Nat.min_eq_left (by omega)]
  · rw [List.flatMap_append, List.length_append, hnl, flat_len (k := 3) (fun _ => rfl), List.length_take, hs.len, Nat.min_eq_left (by omega)]; omega
  · have e := HW.out
    exact (first_gr (by rw [← e]; exact gr_puts _ _ _ _)).trans (gr_puts _ _ _ _)

/-- What LeaseGive gives. -/
def giveR (l : List R3) (s : ByteArray) (o : Int) : List R3 × Bool :=
  if (leasesB l && match l.find? (fun r => decide (r.1 = s)) with | some r => decide (r.2.1 = o) | none => false) = true then (l.take (atR l s).toNat ++ l.drop ((atR l s).toNat + 1), true) else ([], false)
theorem giveR_no1 {l : List R3} {s : ByteArray} {o : Int} (h : leasesB l = false) : giveR l s o = ([], false) := by simp [giveR, h]
theorem giveR_no2 {l : List R3} {s : ByteArray} {o : Int} (h : ∀ r ∈ l, r.1 ≠ s) : giveR l s o = ([], false) := by simp [giveR, find_none h]
theorem giveR_no3 {l : List R3} {s : ByteArray} {o : Int} {k : Nat} {r : R3} (hk : l[k]? = some r) (hr : r.1 = s) (H : ∀ j, j < k → ∀ r, l[j]? = some r → r.1 ≠ s) (ho : r.2.1 ≠ o) : giveR l s o = ([], false) := by
  simp [giveR, find_some hk hr H, ho]
theorem giveR_yes {l : List R3} {s : ByteArray} {o : Int} {k : Nat} {r : R3} (h : leasesB l = true) (ha : atR l s = k) (hk : l[k]? = some r) (hr : r.1 = s) (H : ∀ j, j < k → ∀ r, l[j]? = some r → r.1 ≠ s) (ho : r.2.1 = o) : giveR l s o = (l.take k ++ l.drop (k + 1), true) := by
  simp [giveR, h, find_some hk hr H, ho, ha]

theorem ret_pair {v : Value} {b c : Bool} (h : b = c) : Ending.returned (.tuple #[v, .bool b]) = .returned (.tuple #[v, .bool c]) := by rw [h]

set_option maxRecDepth 100000 in
set_option maxHeartbeats 1000000 in
theorem implLeaseGive_c (A : Option Addr) (n c : Nat) (l : List R3) (s : ByteArray) (o : Int) (w : World) (h : SlR w A n c l) (hz : SzR l) (hn : n ≤ 1048576) : Calls Try.prog 29 #[.slice A n c, .string s, .int .i64 o] w fun e w' =>
    ∃ A' n' c', e = .returned (.tuple #[.slice A' n' c', .bool (giveR l s o).2]) ∧ w'.ownsRow w.heap.size 45 3 (.slice A' n' c') n' ((giveR l s o).1.flatMap encR) ∧ Below w.heap.size w w' := by
  have HL := Lib.hid h.len
  have hcap := h.cap
  have hmax := h.max
  go_enter Try.func29, Try.ntmps29
  go_wp2_with fail
  refine (leaseAt_c _ _ _ l s _ h).mono ?_
  rintro e w1 ⟨rfl, hb1⟩
  have h := h.bel hb1
  have HC := Lib.hid (atR_cases l s)
  obtain ⟨at_, hat⟩ : ∃ a, atR l s = a := ⟨_, rfl⟩
  rw [hat]
  have HA := Lib.hid hat
  clear hat
  go_wp2_with fail
  refine (implLeasesValid_c _ _ _ l _ h hz).mono ?_
  rintro e w2 ⟨rfl, hb2⟩
  have h := h.bel hb2
  cases hv : leasesB l
  · have HG := Lib.hid (giveR_no1 (s := s) (o := o) hv)
    clear hv
    go_wp2_with fail
    go_ret2
    rw [HG.out]
    exact ⟨_, _, _, rfl, World.ownsRow_nil _ _ _ _, bel_nx hb1 hb2⟩
  have HV := Lib.hid hv
  clear hv
  rcases HC.out with ⟨ha, hall⟩ | ⟨k, ⟨s', x, y⟩, ha, hk, hr, H⟩
  · have HG := Lib.hid (giveR_no2 (o := o) hall)
    rw [HA.out] at ha
    subst ha
    clear hall
    go_wp2_with fail
    go_ret2
    rw [HG.out]
    exact ⟨_, _, _, rfl, World.ownsRow_nil _ _ _ _, bel_nx hb1 hb2⟩
  · have hak := ha
    rw [HA.out] at ha
    subst ha
    have hkn : k < n := by rw [← HL.out]; exact (List.getElem?_eq_some_iff.1 hk).1
    obtain ⟨b, off, s1, x1, y1, rfl, hx, hc0, hc1, hc2⟩ := SlR.get h hkn
    rw [hk] at hx
    cases hx
    have i0 : (0 : Int) ≤ (k : Int) := by omega
    have i1 : (k : Int) < (n : Int) := by omega
    have dk : decide ((k : Int) < 0) = false := by simp
    by_cases ho : x = o
    · have HG := Lib.hid (giveR_yes HV.out hak hk hr H ho)
      have e1 : (x == o) = true := by simpa using ho
      obtain ⟨d, hd⟩ : ∃ d, n = k + d + 1 := ⟨n - k - 1, by omega⟩
      obtain ⟨ii, hi0, hz0, hz1, hz2⟩ := info_parts rec_info
      have HD := Lib.hid hd
      clear hak hk hr H ho hd
      go_wp2_with (at_builtin; refine wpList_append_sl (enc := encR) rfl _ _ 23 rfl w2.heap.size 45 ii (.agg #[.string ByteArray.empty, .int .i64 0, .int .i64 0]) 3 32 Try.underlying23 hi0 hz0 hz1 hz2 rfl (by decide) _ 0 [] rfl (World.ownsRow_nil _ _ _ _) (some ⟨b, off, none⟩) n c l rfl (fun _ => rfl) h one_R (by unfold maxLen; omega) (by omega) (Nat.le_refl _) ?_; intro v' w3 hown hgrow hloc; obtain ⟨g, cap, rfl, hg1, hg2⟩ := hown.form (by omega))
      have hd := HD.out
      subst hd
      rw [Nat.zero_add, List.nil_append] at hown
      have hbw : Below w2.heap.size w2 w3 := (Below.refl _ _).grown hgrow (Nat.le_refl _) (fun j hj => by cases hj)
      refine (delete_c w2.heap.size g k d cap l _ hown).mono ?_
      rintro e w4 ⟨rfl, hown4, hgr4⟩
      go_wp2_with fail
      go_ret2
      rw [HG.out]
      refine ⟨_, _, _, rfl, ownsRow_base hown4 (bel_nx hb1 hb2).size, ?_⟩
      exact (bel_nx (bel_nx hb1 hb2) hbw).grown hgr4 (bel_nx (bel_nx hb1 hb2) hbw).size (fun j hj => by cases hj; exact Nat.le_trans (bel_nx hb1 hb2).size hg1)
    · have HG := Lib.hid (giveR_no3 hk hr H ho)
      have e1 : (x == o) = false := by simpa using ho
      clear hak hk hr H ho
      go_wp2_with fail
      go_ret2
      rw [HG.out]
      exact ⟨_, _, _, rfl, World.ownsRow_nil _ _ _ _, bel_nx hb1 hb2⟩

end Go.Proofs.Ythkgechljfjpdaa
