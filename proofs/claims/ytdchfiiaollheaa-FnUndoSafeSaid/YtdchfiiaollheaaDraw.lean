/- The reader of drawn numbers: what each pick gives, and what it leaves as it was. -/
import Derived.Test.YtdchfiiaollheaaBase
import Derived.OpenShut
namespace Go.Proofs.Ytdchfiiaollheaa
open Go.RowKit

/-- A reader lies in block R; p places have been read; its bytes lie in an older block. -/
def RdAt (w : World) (R p : Nat) : Prop :=
  ∃ (A : Option Addr) (n c : Nat), w.heap[R]? = some (.cells #[.slice A n c, .int .i64 p] 90 (0, 0)) ∧ n ≤ 2000 ∧ n ≤ c ∧ c ≤ maxLen ∧
    (0 < n → ∃ b off, A = some ⟨b, off, none⟩ ∧ b < R ∧ ∀ i, i < n → ∃ z : Int, w.cell? ⟨b, off + i, none⟩ = some (.int .u8 z) ∧ 0 ≤ z ∧ z ≤ 255)

theorem xor_nonneg (a b : Int) (ha : 0 ≤ a) (hb : 0 ≤ b) (ha2 : a ≤ 1000000000) (hb2 : b ≤ 1000000000) : 0 ≤ bits .xor .i64 a b ∧ bits .xor .i64 a b ≤ 9223372036854775807 := by
  obtain ⟨x, rfl⟩ := Int.eq_ofNat_of_zero_le ha
  obtain ⟨y, rfl⟩ := Int.eq_ofNat_of_zero_le hb
  have hx : x ^^^ y < 2 ^ 32 := Nat.xor_lt_two_pow (by omega) (by omega)
  have h1 : (BitVec.ofInt 64 (x : Int)).toNat = x := by rw [BitVec.ofInt_natCast, BitVec.toNat_ofNat]; omega
  have h2 : (BitVec.ofInt 64 (y : Int)).toNat = y := by rw [BitVec.ofInt_natCast, BitVec.toNat_ofNat]; omega
  have h3 : bits .xor .i64 (x : Int) (y : Int) = ((x ^^^ y : Nat) : Int) := by
    show IntKind.i64.wrap ((BitVec.ofInt 64 (x : Int) ^^^ BitVec.ofInt 64 (y : Int)).toNat : Int) = _
    rw [BitVec.toNat_xor, h1, h2, IntKind.wrap_i64]
    omega
  rw [h3]
  omega

/-- What a pick of n gives. -/
def Picked (n v : Int) : Prop := 0 ≤ v ∧ (1 ≤ n → v < n) ∧ (n < 1 → v = 0)

theorem RdAt.lt {w : World} {R p : Nat} (h : RdAt w R p) : R < w.heap.size := by
  obtain ⟨A, n, c, hh, _⟩ := h
  exact (Array.getElem?_eq_some_iff.1 hh).1

theorem RdAt.kept {w w' : World} {R p : Nat} (h : RdAt w R p) (hk : ∀ k, k ≤ R → w'.heap[k]? = w.heap[k]?) : RdAt w' R p := by
  obtain ⟨A, n, c, hh, h1, h2, h3, h4⟩ := h
  refine ⟨A, n, c, (hk R (Nat.le_refl _)).trans hh, h1, h2, h3, fun hn => ?_⟩
  obtain ⟨b, off, hA, hb, hz⟩ := h4 hn
  refine ⟨b, off, hA, hb, fun i hi => ?_⟩
  obtain ⟨z, hc, hz1⟩ := hz i hi
  exact ⟨z, (World.cell?_of_block (w := w) (hk b (by omega))).trans hc, hz1⟩

theorem rd_step {w : World} {R p : Nat} (h : RdAt w R p) (nq : Nat) :
    w.grownBy ((w.setCell ⟨R, 1, none⟩ (.int .i64 (↑p + 1))).drewN nq) (some R) ∧ RdAt ((w.setCell ⟨R, 1, none⟩ (.int .i64 (↑p + 1))).drewN nq) R (p + 1) := by
  refine ⟨⟨rfl, rfl, rfl, by simp [World.setCell, World.drewN], fun k _ hk => heap_setCell_other w ⟨R, 1, none⟩ k _ (fun e => hk (by rw [e]))⟩, ?_⟩
  obtain ⟨A, n, c, hh, h1, h2, h3, h4⟩ := h
  have hs := heap_setCell_same w R 1 _ _ (.int .i64 (↑p + 1)) hh
  refine ⟨A, n, c, by simpa using hs, h1, h2, h3, fun hn => ?_⟩
  obtain ⟨b, off, hA, hb, hz⟩ := h4 hn
  refine ⟨b, off, hA, hb, fun i hi => ?_⟩
  obtain ⟨z, hc, hz1⟩ := hz i hi
  exact ⟨z, (World.cell?_of_block (w := w) (heap_setCell_other w ⟨R, 1, none⟩ b _ (fun e => by simp at e; omega))).trans hc, hz1⟩

theorem rd_step0 {w : World} {R p : Nat} (h : RdAt w R p) :
    w.grownBy (w.setCell ⟨R, 1, none⟩ (.int .i64 (↑p + 1))) (some R) ∧ RdAt (w.setCell ⟨R, 1, none⟩ (.int .i64 (↑p + 1))) R (p + 1) := rd_step h 0

theorem picked_mod (n v : Int) (_hv : 0 ≤ v) (hn : 1 ≤ n) : Picked n (v % n) :=
  ⟨Int.emod_nonneg _ (by omega), fun _ => Int.emod_lt_of_pos _ (by omega), fun h => by omega⟩

set_option maxHeartbeats 400000 in
theorem pick_at (R p : Nat) (n : Int) (w : World) (h : RdAt w R p) (hp : p ≤ 1000000) : Calls Try.prog 51 #[.pointer (some ⟨R, 0, none⟩), .int .i64 n] w fun e w' =>
    ∃ v, e = .returned (.int .i64 v) ∧ Picked n v ∧ w.grownBy w' (some R) ∧ RdAt w' R (p + 1) := by
  have HS := Lib.hid h
  obtain ⟨A, len, c, hh, h1, h2, h3, h4⟩ := h
  have c0 : w.cell? ⟨R, 0, none⟩ = some (.slice A len c) := cell_of_row w R 0 _ _ _ hh
  have c1 : w.cell? ⟨R, 1, none⟩ = some (.int .i64 p) := cell_of_row w R 1 _ _ _ hh
  have f1 : w.frozen? ⟨R, 1, none⟩ = false := frozen_of_row w R 1 _ _ hh
  clear hh
  by_cases hn : n < 1
  · go_enter Try.func51, Try.ntmps51
    go_wp2
    go_ret
    exact ⟨0, rfl, ⟨Int.le_refl _, fun h => by omega, fun _ => rfl⟩, rd_step0 HS.out⟩
  · by_cases hl : len = 0
    · subst hl
      go_enter Try.func51, Try.ntmps51
      go_wp2
      go_ret
      exact ⟨0, rfl, ⟨Int.le_refl _, fun h => by omega, fun _ => rfl⟩, rd_step0 HS.out⟩
    · obtain ⟨b, off, rfl, hbR, hz⟩ := h4 (by omega)
      have hne : b ≠ R := by omega
      have hl0 : ((len : Int) == 0) = false := by simp; omega
      by_cases hk : p < len
      · obtain ⟨z, hcz, hz0, hz1⟩ := hz p hk
        go_enter Try.func51, Try.ntmps51
        go_wp2
        go_ret
        exact ⟨_, rfl, picked_mod _ _ hz0 (by omega), rd_step0 HS.out⟩
      · obtain ⟨j1, hj1⟩ : ∃ j, j = p % len := ⟨_, rfl⟩
        obtain ⟨j2, hj2⟩ : ∃ j, j = (p * 7 + 3) % len := ⟨_, rfl⟩
        have lj1 : j1 < len := by rw [hj1]; exact Nat.mod_lt _ (by omega)
        have lj2 : j2 < len := by rw [hj2]; exact Nat.mod_lt _ (by omega)
        obtain ⟨z, hcz, hz0, hz1⟩ := hz j1 lj1
        obtain ⟨y, hcy, hy0, hy1⟩ := hz j2 lj2
        have e1 : (p : Int).tmod (len : Int) = (j1 : Int) := by rw [hj1]; rfl
        obtain ⟨q1, hq1⟩ : ∃ q : Int, q = (p : Int) * 7 := ⟨_, rfl⟩
        obtain ⟨q2, hq2⟩ : ∃ q : Int, q = q1 + 3 := ⟨_, rfl⟩
        have e2 : IntKind.i64.wrap ((p : Int) * 7) = q1 := by rw [IntWalk.i64_in _ (by omega)]; exact hq1.symm
        have e3 : IntKind.i64.wrap (q1 + 3) = q2 := by rw [IntWalk.i64_in _ (by omega)]; exact hq2.symm
        have e4 : q2.tmod (len : Int) = (j2 : Int) := by
          rw [hj2, hq2, hq1]
          rw [show (p : Int) * 7 + 3 = ((p * 7 + 3 : Nat) : Int) from by omega]
          rfl
        obtain ⟨a1, ha1⟩ : ∃ q : Int, q = z * 131 := ⟨_, rfl⟩
        have e5 : IntKind.i64.wrap (z * 131) = a1 := by rw [IntWalk.i64_in _ (by omega)]; exact ha1.symm
        obtain ⟨a2, ha2⟩ : ∃ q : Int, q = y * 1117 := ⟨_, rfl⟩
        have e6 : IntKind.i64.wrap (y * 1117) = a2 := by rw [IntWalk.i64_in _ (by omega)]; exact ha2.symm
        obtain ⟨a3, ha3⟩ : ∃ q : Int, q = a1 + a2 := ⟨_, rfl⟩
        have e7 : IntKind.i64.wrap (a1 + a2) = a3 := by rw [IntWalk.i64_in _ (by omega)]; exact ha3.symm
        obtain ⟨a4, ha4⟩ : ∃ q : Int, q = (p : Int) * 29 := ⟨_, rfl⟩
        have e8 : IntKind.i64.wrap ((p : Int) * 29) = a4 := by rw [IntWalk.i64_in _ (by omega)]; exact ha4.symm
        obtain ⟨a5, ha5⟩ : ∃ q : Int, q = a3 + a4 := ⟨_, rfl⟩
        have e9 : IntKind.i64.wrap (a3 + a4) = a5 := by rw [IntWalk.i64_in _ (by omega)]; exact ha5.symm
        have hd0 : 0 ≤ (p : Int) / (len : Int) ∧ (p : Int) / (len : Int) ≤ p :=
          ⟨Int.ediv_nonneg (by omega) (by omega), Int.ediv_le_self _ (by omega)⟩
        obtain ⟨a6, ha6⟩ : ∃ q : Int, q = (p : Int) / (len : Int) := ⟨_, rfl⟩
        have e10 : IntKind.i64.wrap ((p : Int) / (len : Int)) = a6 := by rw [IntWalk.i64_in _ (by omega)]; exact ha6.symm
        rw [← ha6] at hd0
        obtain ⟨a7, ha7⟩ : ∃ q : Int, q = a6 * 53 := ⟨_, rfl⟩
        have e11 : IntKind.i64.wrap (a6 * 53) = a7 := by rw [IntWalk.i64_in _ (by omega)]; exact ha7.symm
        obtain ⟨a8, ha8⟩ : ∃ q : Int, q = a5 + a7 := ⟨_, rfl⟩
        have e12 : IntKind.i64.wrap (a5 + a7) = a8 := by rw [IntWalk.i64_in _ (by omega)]; exact ha8.symm
        have b8 : 0 ≤ a8 ∧ a8 ≤ 1000000000 := by omega
        clear ha1 ha2 ha3 ha4 ha5 ha6 ha7 ha8 hq1 hq2 hj1 hj2 hz h4
        go_enter Try.func51, Try.ntmps51
        go_wp2
        go_quiet (fail)
        clear e1 e2 e3 e4 e5 e6 e7 e8 e9 e10 e11 e12
        obtain ⟨b80, b81⟩ := b8
        have hxo := xor_nonneg a8 (a8 / 64) (by omega) (by omega) (by omega) (by omega)
        go_wp2
        go_ret
        exact ⟨_, rfl, picked_mod _ _ hxo.1 (by omega), rd_step HS.out _⟩
/-- A reader lies in block R, from which q places may yet be read (a bound of the proof's own). -/
def Rd (w : World) (R q : Nat) : Prop := ∃ p, p + q ≤ 1000000 ∧ RdAt w R p

theorem pick_c (R q : Nat) (n : Int) (w : World) (h : Rd w R (q + 1)) : Calls Try.prog 51 #[.pointer (some ⟨R, 0, none⟩), .int .i64 n] w fun e w' =>
    ∃ v, e = .returned (.int .i64 v) ∧ Picked n v ∧ w.grownBy w' (some R) ∧ Rd w' R q := by
  obtain ⟨p, hp, hr⟩ := h
  exact (pick_at R p n w hr (by omega)).mono fun e w' ⟨v, h1, h2, h3, h4⟩ => ⟨v, h1, h2, h3, p + 1, by omega, h4⟩

/-- A slice of numbers that came in: nil, or a row of cells. -/
def IsRow (k : IntKind) (w : World) (a : Option Addr) (len cap : Nat) (zs : List Int) : Prop :=
  (a = none ∧ len = 0 ∧ cap = 0 ∧ zs = []) ∨
  ∃ x, a = some x ∧ len ≤ cap ∧ cap ≤ maxLen ∧ zs.length = cap ∧ (∀ i, i < zs.length → w.cell? (x.add i) = some (.int k (zs.getD i 0))) ∧ ∀ n ∈ zs, (Lit.int k n).wf = true

theorem IsRow.al {k : IntKind} {w : World} {a : Option Addr} {len cap : Nat} {zs : List Int} (h : IsRow k w a len cap zs) (o : Obj) : IsRow k (w.alloc o) a len cap zs := by
  rcases h with h | ⟨x, h1, h2, h3, h4, h5, h6⟩
  · exact .inl h
  · exact .inr ⟨x, h1, h2, h3, h4, fun i hi => (cell_alloc_some w o _ (by rw [h5 i hi]; rfl)).trans (h5 i hi), h6⟩

theorem row_len {k : IntKind} {w : World} {A : Option Addr} {n c : Nat} {zs : List Int} (h : IsRow k w A n c zs) : n ≤ c ∧ c ≤ 9223372036854775807 := by
  rcases h with ⟨rfl, rfl, rfl, rfl⟩ | ⟨x, rfl, hl, hm, _⟩
  · omega
  · unfold maxLen at hm; omega

theorem rd_new (w : World) (A : Option Addr) (n n' c : Nat) (zs : List Int) (h : IsRow .u8 w A n c zs) (hn : n' ≤ n) (hn2 : n' ≤ 2000) :
    RdAt (w.alloc (.cells #[.slice A n' c, .int .i64 0] 90)) w.heap.size 0 := by
  rcases h with ⟨rfl, rfl, rfl, rfl⟩ | ⟨x, rfl, hl, hm, hz, hcell, hwz⟩
  · exact ⟨none, n', 0, heap_alloc_new w _, hn2, by omega, by unfold maxLen; omega, fun h => by omega⟩
  · refine ⟨_, n', c, heap_alloc_new w _, hn2, by omega, hm, fun h0 => ?_⟩
    obtain ⟨b, off, spot⟩ := x
    have hc0 := hcell 0 (by omega)
    have hspot : spot = none := by simpa [Addr.add] using World.cell?_spot hc0
    subst hspot
    have hadd : ∀ i, (⟨b, off, none⟩ : Addr).add i = ⟨b, off + i, none⟩ := fun i => by unfold Addr.add; split <;> simp_all
    have hb : b < w.heap.size := World.block_lt_of_cell? w _ (by rw [hadd] at hc0; exact hc0)
    refine ⟨b, off, rfl, hb, fun i hi => ⟨zs.getD i 0, ?_, ?_⟩⟩
    · rw [World.cell?_alloc_lt _ _ _ (by simpa using hb), ← hadd]
      exact hcell i (by omega)
    · have hmem : zs.getD i 0 ∈ zs := by
        rw [List.getD_eq_getElem?_getD, List.getElem?_eq_getElem (by omega)]
        exact List.getElem_mem _
      have := bounds_u8 (hwz _ hmem)
      omega

theorem l6Open_c (A : Option Addr) (n c : Nat) (zs : List Int) (w : World) (h : IsRow .u8 w A n c zs) : Calls Try.prog 49 #[.slice A n c] w fun e w' =>
    ∃ R, e = .returned (.pointer (some ⟨R, 0, none⟩)) ∧ Rd w' R 1000 ∧ Below w.heap.size w w' ∧ w.heap.size ≤ R := by
  have HS := Lib.hid h
  have hc : n ≤ c ∧ c ≤ 9223372036854775807 := by
    rcases h with ⟨rfl, rfl, rfl, rfl⟩ | ⟨x, rfl, hl, hm, _⟩
    · omega
    · unfold maxLen at hm; omega
  obtain ⟨hc1, hc2⟩ := hc
  clear h
  by_cases hn : 2000 < n
  · go_enter Try.func49, Try.ntmps49
    go_wp2
    go_ret
    exact ⟨_, rfl, ⟨0, by omega, rd_new w A n _ c zs HS.out (by omega) (by omega)⟩, by (repeat' first | exact bel_refl _ | refine bel_al ?_ _ | refine bel_dr ?_ | refine bel_drN ?_ _ | refine bel_nx ?_ (by assumption) | (refine bel_set ?_ (by first | omega | (simp; omega)) _)), Nat.le_refl _⟩
  · go_enter Try.func49, Try.ntmps49
    go_wp2
    go_ret
    exact ⟨_, rfl, ⟨0, by omega, rd_new w A n _ c zs HS.out (by omega) (by omega)⟩, by (repeat' first | exact bel_refl _ | refine bel_al ?_ _ | refine bel_dr ?_ | refine bel_drN ?_ _ | refine bel_nx ?_ (by assumption) | (refine bel_set ?_ (by first | omega | (simp; omega)) _)), Nat.le_refl _⟩
/-- What could be read in other blocks is read as before. -/
theorem pcell {R : Nat} {W w1 : World} (hg : W.grownBy w1 (some R)) : (∀ p, (W.cell? p).isSome = true → p.block ≠ R → w1.cell? p = W.cell? p) ∧ (∀ p, (W.cell? p).isSome = true → p.block ≠ R → w1.frozen? p = W.frozen? p) :=
  ⟨fun p h hne => World.cell?_of_block (hg.block p.block (cell_some_lt h) (fun e => hne (Option.some.inj e))), fun p h hne => World.frozen?_of_block (hg.block p.block (cell_some_lt h) (fun e => hne (Option.some.inj e)))⟩

section
variable {w W wx : World} {R p q q' : Nat}
theorem Rd.lt (h : Rd w R q) : R < w.heap.size := by obtain ⟨p, _, h⟩ := h; exact h.lt
theorem Rd.less (h : Rd w R q) (hq : q' ≤ q) : Rd w R q' := by obtain ⟨p, hp, h⟩ := h; exact ⟨p, by omega, h⟩
theorem Rd.kept (h : Rd w R q) (hk : ∀ k, k ≤ R → wx.heap[k]? = w.heap[k]?) : Rd wx R q := by obtain ⟨p, hp, h⟩ := h; exact ⟨p, hp, h.kept hk⟩
theorem Rd.al (h : Rd w R q) (o : Obj) : Rd (w.alloc o) R q := h.kept fun k hk => Below.heap_alloc w o k (by have := h.lt; omega)
theorem Rd.dr (h : Rd w R q) : Rd w.drew R q := h
theorem Rd.set_ (h : Rd w R q) {a : Addr} (ha : R < a.block) (v : Value) : Rd (w.setCell a v) R q := h.kept fun k hk => Below.heap_setCell w a v k (by omega)
theorem Rd.below (h : Rd w R q) (hb : Below w.heap.size w wx) : Rd wx R q := h.kept fun k hk => hb.block k (by have := h.lt; omega)
theorem bel_gr {w0 : World} (h : Below w0.heap.size w0 W) (hg : W.grownBy wx (some R)) (hR : w0.heap.size ≤ R) : Below w0.heap.size w0 wx := h.grown hg h.size (fun k hk => by cases hk; exact hR)
theorem gr_refl (w : World) (r : Option Nat) : w.grownBy w r := World.grownBy.refl w r
theorem gr_al (h : w.grownBy W (some R)) (o : Obj) : w.grownBy (W.alloc o) (some R) := h.trans (World.grownBy_alloc W o _)
theorem gr_dr (h : w.grownBy W (some R)) : w.grownBy W.drew (some R) := ⟨h.os, h.tape, h.output, h.size, h.block⟩
theorem gr_nx (h : w.grownBy W (some R)) (hg : W.grownBy wx (some R)) : w.grownBy wx (some R) := h.trans hg
theorem gr_bl (h : w.grownBy W (some R)) (hb : Below W.heap.size W wx) : w.grownBy wx (some R) := h.trans ⟨hb.os, hb.tape, hb.output, hb.size, fun k hk _ => hb.block k hk⟩
theorem gr_set (h : w.grownBy W (some R)) {a : Addr} (ha : w.heap.size ≤ a.block) (v : Value) : w.grownBy (W.setCell a v) (some R) :=
  ⟨h.os, h.tape, h.output, by simpa [World.setCell] using h.size, fun k hk hne => (Below.heap_setCell W a v k (by omega)).trans (h.block k hk hne)⟩
end

theorem app_rd {w w' : World} {R q : Nat} {r : Option Nat} {o : Obj} (h : Rd w R q) (hg : (w.alloc o).grownBy w' r) (hne : ∀ k, r = some k → R < k) : Rd w' R q :=
  h.kept fun k hk => (hg.block k (by have := h.lt; simp; omega) (fun e => by have := hne k e.symm; omega)).trans (Below.heap_alloc w o k (by have := h.lt; omega))
theorem app_gr {w w' wx : World} {R : Nat} {r : Option Nat} {o : Obj} (h : w.grownBy w' (some R)) (hg : (w'.alloc o).grownBy wx r) (hr : ∀ k, r = some k → w.heap.size ≤ k) : w.grownBy wx (some R) :=
  ⟨hg.os.trans h.os, hg.tape.trans h.tape, hg.output.trans h.output, by have := h.size; have := hg.size; simp at this; omega,
    fun k hk hne => (hg.block k (by have := h.size; simp; omega) (fun e => by have := hr k e.symm; omega)).trans ((Below.heap_alloc w' o k (by have := h.size; omega)).trans (h.block k hk hne))⟩

attribute [irreducible] Rd

end Go.Proofs.Ytdchfiiaollheaa
