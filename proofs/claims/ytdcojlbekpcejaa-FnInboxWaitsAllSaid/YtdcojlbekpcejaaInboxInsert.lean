/- slices.Insert and slices.BinarySearch at numbers, by the kit's contracts; the reference's l22Put. -/
import Derived.Test.YtdcojlbekpcejaaInboxPlain
import Derived.Test.YtdcojlbekpcejaaOverRows
import Derived.Test.YtdcojlbekpcejaaDraw
import Derived.Shelf.Slices.SearchI
import Derived.Shelf.Slices.Empties
import Derived.Shelf.Spec.SlicesInsertGrow
namespace Go.Proofs.Ytdcojlbekpcejaa
open Go.RowKit

def lays2_21_ren : Go.Shelf.Ren := ⟨fun | 21 => 47 | 27 => 52 | 28 => 53 | 35 => 56 | 39 => 57 | n => n, fun | 22 => 23 | 3 => 3 | 4 => 4 | 0 => 0 | n => n, fun | n => n⟩
theorem lays2_21 : Go.Proofs.Lays2.n21 Try.prog lays2_21_ren := {
  mixed := by kernel_rfl
  f21 := Try.func47.trans (congrArg some (by kernel_rfl))
  f27 := Try.func52.trans (congrArg some (by kernel_rfl))
  f28 := Try.func53.trans (congrArg some (by kernel_rfl))
  f35 := Try.func56.trans (congrArg some (by kernel_rfl))
  f39 := Try.func57.trans (congrArg some (by kernel_rfl))
  t0 := Try.underlying0
  a0 := Try.isAgg0
  z0 := Try.sizeOf0
  v0 := Try.zeroValue0
  t3 := Try.underlying3
  a3 := Try.isAgg3
  z3 := Try.sizeOf3
  v3 := Try.zeroValue3
  t4 := Try.underlying4
  a4 := Try.isAgg4
  z4 := Try.sizeOf4
  v4 := Try.zeroValue4
  t22 := Try.underlying23
  a22 := Try.isAgg23
  z22 := Try.sizeOf23
  v22 := Try.zeroValue23
  i3 := by kernel_rfl }
def lays2_25_ren : Go.Shelf.Ren := ⟨fun | 25 => 46 | 31 => 50 | 32 => 51 | 37 => 55 | n => n, fun | 22 => 23 | 3 => 3 | 4 => 4 | 40 => 59 | 0 => 0 | n => n, fun | n => n⟩
theorem lays2_25 : Go.Proofs.Lays2.n25 Try.prog lays2_25_ren := {
  mixed := by kernel_rfl
  f25 := Try.func46.trans (congrArg some (by kernel_rfl))
  f31 := Try.func50.trans (congrArg some (by kernel_rfl))
  f32 := Try.func51.trans (congrArg some (by kernel_rfl))
  f37 := Try.func55.trans (congrArg some (by kernel_rfl))
  t0 := Try.underlying0
  a0 := Try.isAgg0
  z0 := Try.sizeOf0
  v0 := Try.zeroValue0
  t3 := Try.underlying3
  a3 := Try.isAgg3
  z3 := Try.sizeOf3
  v3 := Try.zeroValue3
  t4 := Try.underlying4
  a4 := Try.isAgg4
  z4 := Try.sizeOf4
  v4 := Try.zeroValue4
  t22 := Try.underlying23
  a22 := Try.isAgg23
  z22 := Try.sizeOf23
  v22 := Try.zeroValue23
  t40 := Try.underlying59
  a40 := Try.isAgg59
  z40 := Try.sizeOf59
  v40 := Try.zeroValue59 }

theorem search_c (A : Option Addr) (n c : Nat) (l : List Int) (x : Int) (w : World) (h : SlI w A n c l) (hs : l.Pairwise (· < ·)) (hn : n ≤ 1000000) : Calls Try.prog 46 #[.slice A n c, .int .i64 x] w fun e w' =>
    ∃ t, e = .returned (.tuple #[.int .i64 (l.countP (· < x) : Nat), .bool t]) ∧ Below w.heap.size w w' := by
  have hl := h.len
  rcases Nat.eq_zero_or_pos n with rfl | hn0
  · obtain rfl : l = [] := List.length_eq_zero_iff.1 hl
    refine (Any.slices_BinarySearch_int_empty lays2_25 A c x w).mono ?_
    rintro e w' ⟨rfl, rfl⟩
    exact ⟨_, rfl, bel_refl _⟩
  · obtain ⟨b, off, rfl, _⟩ := h.at_ hn0
    refine (Any.slices_BinarySearch_int lays2_25 b off n c l x w (by omega) (by omega) (fun j hj => ?_) (by rw [List.take_of_length_le (by omega)]; exact hs.imp (fun h => Int.le_of_lt h))).mono ?_
    · obtain ⟨b', off', z, hA, hz, hc⟩ := SlI.get h (i := j) (by omega)
      obtain ⟨rfl, rfl⟩ : b = b' ∧ off = off' := by simpa using hA
      rw [hc, List.getD_eq_getElem?_getD, hz]
      rfl
    · rintro e w' ⟨rfl, q, rfl⟩
      rw [List.take_of_length_le (by omega)]
      exact ⟨_, rfl, bel_drN (bel_refl _) q⟩

theorem ins_take {α : Type} {cur cs : List α} {n i : Nat} {x : α} (hn : cs.length = n) (ht : cur.take n = cs) (hr : n + 1 ≤ cur.length) (hi : i ≤ n) :
    (putL (putL cur (i + 1) (cs.drop i)) i [x]).take (n + 1) = cs.take i ++ x :: cs.drop i := by
  have hd : (cs.drop i).length = n - i := by simp [hn]
  have e1 : putL cur (i + 1) (cs.drop i) = cur.take (i + 1) ++ (cs.drop i ++ cur.drop (n + 1)) := by
    unfold putL
    rw [hd, show i + 1 + (n - i) = n + 1 by omega, List.append_assoc]
  have l1 : (cur.take (i + 1)).length = i + 1 := by simp; omega
  have e2 : (putL cur (i + 1) (cs.drop i)).take i = cs.take i := by
    rw [e1, List.take_append_of_le_length (by omega), List.take_take, Nat.min_eq_left (by omega), ← ht, List.take_take, Nat.min_eq_left hi]
  have e3 : (putL cur (i + 1) (cs.drop i)).drop (i + 1) = cs.drop i ++ cur.drop (n + 1) := by
    rw [e1, List.drop_append_of_le_length (by omega), List.drop_eq_nil_of_le (by omega), List.nil_append]
  obtain ⟨q, hq⟩ : ∃ q, q = putL cur (i + 1) (cs.drop i) := ⟨_, rfl⟩
  rw [← hq] at e2 e3 ⊢
  rw [show putL q i [x] = cs.take i ++ [x] ++ (cs.drop i ++ cur.drop (n + 1)) by unfold putL; rw [e2]; rw [show i + [x].length = i + 1 by rfl, e3]]
  rw [← List.append_assoc, List.take_append_of_le_length (by simp [hn]; omega), List.take_of_length_le (by simp [hn]; omega)]
  simp

theorem shape_blk {w : World} {g : Nat} {t : TypeId} {cs : Array Value} (h : Blk w g t cs) : w.shape? g = some (t, cs.size) := by
  unfold World.shape?
  rw [show w.heap[g]? = _ from h]

theorem gr_puts_new {w : World} {g g' : Nat} (hg : w.heap.size ≤ g') : ∀ (vs : List Value) (o : Nat) (W : World), w.grownBy W (some g) → w.grownBy (W.setCells g' o vs) (some g)
  | [], _, _, h => h
  | v :: r, o, _, h => gr_puts_new hg r (o + 1) _ (gr_set h (a := ⟨g', o, none⟩) hg v)

set_option maxHeartbeats 1000000 in
theorem insert_c (B : Nat) (A : Option Addr) (n c i vb : Nat) (l : List Int) (x : Int) (w : World) (hown : w.ownsRow B 3 1 (.slice A n c) n (l.map (Value.int .i64))) (hv : Blk w vb 3 #[.int .i64 x]) (hne : (Value.slice A n c).ownBlock ≠ some vb) (hi : i ≤ n) (hn : n ≤ 1000000) (hB : B ≤ w.heap.size) :
    Calls Try.prog 47 #[.slice A n c, .int .i64 i, .slice (some ⟨vb, 0, none⟩) 1 1] w fun e w' =>
    ∃ A' c', e = .returned (.slice A' (n + 1) c') ∧ w'.ownsRow B 3 1 (.slice A' (n + 1) c') (n + 1) ((l.take i ++ x :: l.drop i).map (Value.int .i64)) ∧ w.grownBy w' (Value.slice A n c).ownBlock := by
  have hl : l.length = n := by have := hown.1; simpa using this
  have hmap : (l.take i ++ x :: l.drop i).map (Value.int .i64) = (l.map (Value.int .i64)).take i ++ Value.int .i64 x :: (l.map (Value.int .i64)).drop i := by simp [List.map_take, List.map_drop]
  rw [hmap]
  obtain ⟨cs, hcs⟩ : ∃ cs, cs = l.map (Value.int .i64) := ⟨_, rfl⟩
  have h1c : ∀ v ∈ cs, v.oneCell' = true := fun v hv => by
    rw [hcs] at hv
    obtain ⟨z, _, rfl⟩ := List.mem_map.1 hv
    rfl
  rw [← hcs] at hown ⊢
  have hcl : cs.length = n := by rw [hcs]; simpa using hl
  clear hcs hmap
  have hvc : ∀ j v, [Value.int .i64 x][j]? = some v → w.cell? ⟨vb, 0 + j, none⟩ = some v := fun j v hj => by
    rw [hv.cell, Nat.zero_add]; simpa using hj
  have h1v : ∀ v ∈ [Value.int .i64 x], v.oneCell' = true := fun v hv => by simp at hv; subst hv; rfl
  have hgc : ∀ (w : World) (k m : Nat) (t : TypeId), k ≤ 1000001 → k ≤ grownCap w k m t ∧ grownCap w k m t ≤ maxLen := fun w k m t hk => ⟨grownCap_ge _ _ _ _, grownCap_le_maxLen _ _ _ _ (by unfold maxLen; omega)⟩
  rcases Nat.lt_or_ge i n with hin | hin
  · obtain ⟨g, cap, hA, hgB, hgL⟩ := hown.form (by omega)
    obtain ⟨rfl, _, rfl⟩ := slice_inj hA
    have hgv : vb ≠ g := fun e => hne (by subst e; rfl)
    obtain ⟨cur, hb, hBg, hnc, hc63, hcurl, hcurt⟩ := own_blk hown
    rw [Nat.mul_one] at hcurl hcurt
    have hcc : ∀ j v, cs[j]? = some v → w.cell? ⟨g, 0 + j, none⟩ = some v := fun j v hj => by
      rw [hb.cell, Nat.zero_add]
      rw [← hcurt, List.getElem?_take] at hj
      split at hj
      · simpa using hj
      · cases hj
    rcases Nat.lt_or_ge c (n + 1) with hroom | hroom
    · refine (Any2.slices_Insert_int_grow lays2_21 g 0 n c i vb 0 1 1 cs [.int .i64 x] w hin (by omega) hnc hroom (by omega) hcl rfl hcc hvc h1c h1v).mono ?_
      rintro e w' ⟨rfl, rfl⟩
      obtain ⟨gc, hgce⟩ : ∃ gc, gc = grownCap w (n + 1) c 3 := ⟨_, rfl⟩
      obtain ⟨gc1, gc2⟩ := hgc w (n + 1) c 3 (by omega)
      show ∃ A' c', Ending.returned (.slice (some ⟨w.heap.size, 0, none⟩) (n + 1) (grownCap w (n + 1) c 3)) = _ ∧ _
      rw [← hgce] at gc1 gc2 ⊢
      obtain ⟨arr, harr⟩ : ∃ arr, arr = ((cs.take i).toArray ++ Builtin.zeroCells (Value.int .i64 0).cells (n + 1 - i) ++ Builtin.zeroCells (Value.int .i64 0).cells (gc - (n + 1))) := ⟨_, rfl⟩
      have hsz : arr.toList.length = gc := by
        rw [harr]
        simp only [Array.length_toList, Array.size_append, size_zeroCells, List.size_toArray, List.length_take, hcl, show (Value.int .i64 0).cells.size = 1 from rfl]
        omega
      have htk : arr.toList.take i = cs.take i := by
        rw [harr]
        simp only [Array.toList_append, List.append_assoc]
        rw [List.take_append_of_le_length (by simp; omega), List.take_of_length_le (by simp; omega)]
      have b0 : Blk (w.alloc (.cells arr 3)) w.heap.size 3 arr.toList.toArray := by rw [Array.toArray_toList]; exact Blk.new w _ _
      have b1 := Blk.puts [.int .i64 x] i _ _ (by rw [hsz]; show i + 1 ≤ gc; omega) b0.dr
      have hd : (cs.drop i).length = n - i := by simp [hcl]
      have hlen1 : (putL arr.toList i [Value.int .i64 x]).length = gc := by rw [putL_len (by rw [hsz]; show i + 1 ≤ gc; omega), hsz]
      have b2 := Blk.puts (cs.drop i) (i + 1) _ _ (by rw [hlen1, hd]; omega) b1.dr
      show ∃ A' c', _ ∧ World.ownsRow ((((w.alloc (.cells ((cs.take i).toArray ++ Builtin.zeroCells (Value.int .i64 0).cells (n + 1 - i) ++ Builtin.zeroCells (Value.int .i64 0).cells (grownCap w (n + 1) c 3 - (n + 1))) 3)).drew.setCells w.heap.size i [Value.int .i64 x]).drew).setCells w.heap.size (i + 1) (cs.drop i)) B 3 1 (.slice A' (n + 1) c') (n + 1) _ ∧ _
      rw [← hgce, ← harr]
      refine ⟨some ⟨w.heap.size, 0, none⟩, gc, rfl, own_mk b2 hB (by omega) gc2 (by rw [putL_len (by rw [hlen1, hd]; omega), hlen1, Nat.mul_one]) ?_ (by simp [hcl]; omega), ?_⟩
      · have hh := take_putL (cs := putL arr.toList i [Value.int .i64 x]) (vs := cs.drop i) (o := i + 1) (by rw [hlen1]; omega)
        rw [hd] at hh
        rw [show (n + 1) * 1 = i + 1 + (n - i) by omega, hh]
        have hh2 := take_putL (cs := arr.toList) (vs := [Value.int .i64 x]) (o := i) (by rw [hsz]; omega)
        rw [show i + [Value.int .i64 x].length = i + 1 by rfl] at hh2
        rw [hh2, htk]
        simp
      · exact gr_puts_new (g' := w.heap.size) (Nat.le_refl _) _ _ _ (gr_dr1 (gr_puts_new (g' := w.heap.size) (Nat.le_refl _) _ _ _ (gr_dr1 (World.grownBy_alloc w _ (some g)))))
    · refine (Any2.slices_Insert_int_shift lays2_21 g 0 n c i vb 0 1 1 cs [.int .i64 x] w hin (by omega) hroom (by unfold maxLen at hc63; omega) hgv hcl rfl hcc (fun j hj => (blk_free hb (by omega)).1) (fun j hj => (blk_free hb (by omega)).2) hvc h1c h1v 3 3 _ _ (shape_blk hv) (shape_blk hb) (by rw [List.size_toArray]; omega) (hv.frozen _) (hv.frozen _)).mono ?_
      rintro e w' ⟨rfl, rfl⟩
      have hd : (cs.drop i).length = n - i := by simp [hcl]
      have b1 := Blk.puts (cs.drop i) (0 + (i + 1)) _ _ (by rw [hd]; omega) hb.dr
      have hl1 : (putL cur (0 + (i + 1)) (cs.drop i)).length = c := by rw [putL_len (by rw [hd]; omega), hcurl]
      have b2 := Blk.puts [.int .i64 x] (0 + i) _ _ (by rw [hl1]; show 0 + i + 1 ≤ c; omega) b1
      refine ⟨_, c, rfl, own_mk b2 hBg hroom hc63 (by rw [putL_len (by rw [hl1]; show 0 + i + 1 ≤ c; omega), hl1, Nat.mul_one]) ?_ (by simp [hcl]; omega), (gr_dr1 (World.grownBy.refl w _)).trans ((gr_puts g _ _ _).trans (gr_puts g _ _ _))⟩
      rw [Nat.mul_one, Nat.zero_add, Nat.zero_add]
      exact ins_take hcl hcurt (by omega) (by omega)
  · obtain rfl : i = n := by omega
    have e1 : cs.take i ++ Value.int .i64 x :: cs.drop i = cs ++ [Value.int .i64 x] := by
      rw [List.take_of_length_le (by omega), List.drop_eq_nil_of_le (by omega)]
    rw [e1]
    rcases Nat.lt_or_ge c (i + 1) with hroom | hroom
    · have hbase : (A = none → i = 0) ∧ (i ≤ c) ∧ (∀ a, A = some a → ∀ j v, cs[j]? = some v → w.cell? (a.add j) = some v) := by
        rcases hown.2 with ⟨h0, hx⟩ | ⟨g, cap, cur, h1, _⟩
        · obtain ⟨rfl, rfl, rfl⟩ := slice_inj h0
          exact ⟨fun _ => rfl, Nat.le_refl _, fun a ha => by cases ha⟩
        · obtain ⟨rfl, _, rfl⟩ := slice_inj h1
          obtain ⟨cur, hb, hBg, hnc, hc63, hcurl, hcurt⟩ := own_blk hown
          rw [Nat.mul_one] at hcurl hcurt
          refine ⟨fun h => (by cases h), hnc, fun a ha j v hj => ?_⟩
          obtain rfl : (⟨g, 0, none⟩ : Addr) = a := by simpa using ha
          rw [add_addr, hb.cell, Nat.zero_add]
          rw [← hcurt, List.getElem?_take] at hj
          split at hj
          · simpa using hj
          · cases hj
      refine (Any2.slices_Insert_int_end_grow lays2_21 A i c vb 0 1 1 cs [.int .i64 x] w (by omega) hbase.2.1 hroom (by omega) hcl rfl hbase.1 hbase.2.2 hvc h1v).mono ?_
      rintro e w' ⟨rfl, rfl⟩
      obtain ⟨gc, hgce⟩ : ∃ gc, gc = grownCap w (i + 1) c 3 := ⟨_, rfl⟩
      obtain ⟨gc1, gc2⟩ := hgc w (i + 1) c 3 (by omega)
      show ∃ A' c', Ending.returned (.slice (some ⟨w.heap.size, 0, none⟩) (i + 1) (grownCap w (i + 1) c 3)) = _ ∧ World.ownsRow (w.drew.alloc (.cells ((cs ++ [Value.int .i64 x]).toArray ++ Builtin.zeroCells (Value.int .i64 0).cells (grownCap w (i + 1) c 3 - (i + 1))) 3)) B 3 1 (.slice A' (i + 1) c') (i + 1) _ ∧ _
      rw [← hgce] at gc1 gc2 ⊢
      obtain ⟨arr, harr⟩ : ∃ arr, arr = ((cs ++ [Value.int .i64 x]).toArray ++ Builtin.zeroCells (Value.int .i64 0).cells (gc - (i + 1))) := ⟨_, rfl⟩
      have hsz : arr.toList.length = gc := by
        rw [harr]
        simp only [Array.length_toList, Array.size_append, size_zeroCells, List.size_toArray, List.length_append, hcl, show (Value.int .i64 0).cells.size = 1 from rfl, List.length_cons, List.length_nil]
        omega
      have htk : arr.toList.take (i + 1) = cs ++ [Value.int .i64 x] := by
        rw [harr]
        simp only [Array.toList_append]
        rw [List.take_append_of_le_length (by simp; omega), List.take_of_length_le (by simp; omega)]
      have b0 : Blk (w.drew.alloc (.cells arr 3)) w.heap.size 3 arr.toList.toArray := by rw [Array.toArray_toList]; exact Blk.new w.drew _ _
      rw [← harr]
      exact ⟨_, gc, rfl, own_mk b0 hB (by omega) gc2 (by rw [hsz, Nat.mul_one]) (by rw [Nat.mul_one, htk]) (by simp [hcl]), (gr_dr1 (World.grownBy.refl w _)).trans (World.grownBy_alloc _ _ _)⟩
    · obtain ⟨g, hA⟩ : ∃ g, A = some ⟨g, 0, none⟩ := by
        rcases hown.2 with ⟨h0, hx⟩ | ⟨g, cap, cur, h1, _⟩
        · obtain ⟨rfl, rfl, rfl⟩ := slice_inj h0
          omega
        · obtain ⟨rfl, _, rfl⟩ := slice_inj h1
          exact ⟨g, rfl⟩
      subst hA
      obtain ⟨cur, hb, hBg, hnc, hc63, hcurl, hcurt⟩ := own_blk hown
      rw [Nat.mul_one] at hcurl hcurt
      refine (Any2.slices_Insert_int_end_room lays2_21 g 0 i c vb 0 1 1 [.int .i64 x] w (by omega) hroom (by unfold maxLen at hc63; omega) rfl (fun j hj => (blk_free hb (by omega)).1) (fun j hj => (blk_free hb (by omega)).2) hvc h1v).mono ?_
      rintro e w' ⟨rfl, rfl⟩
      have b1 := Blk.puts [.int .i64 x] (0 + i) _ _ (by show 0 + i + 1 ≤ cur.length; omega) hb
      refine ⟨_, c, rfl, own_mk b1 hBg hroom hc63 (by rw [putL_len (by show 0 + i + 1 ≤ cur.length; omega), hcurl, Nat.mul_one]) ?_ (by simp [hcl]), gr_puts g _ _ _⟩
      have hh := take_putL (cs := cur) (vs := [Value.int .i64 x]) (o := i) (by omega)
      rw [show i + [Value.int .i64 x].length = i + 1 by rfl] at hh
      rw [Nat.mul_one, Nat.zero_add, hh, hcurt]

end Go.Proofs.Ytdcojlbekpcejaa
