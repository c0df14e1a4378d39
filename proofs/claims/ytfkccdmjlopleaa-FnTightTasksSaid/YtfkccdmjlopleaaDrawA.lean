/- Contracts of the reader of the drawn code: open, pick, odd. -/
import Derived.Test.YtfkccdmjlopleaaScal
import Derived.Test.YtfkccdmjlopleaaMem
import Derived.Deep.QuietTactic
import Derived.BigQuiet
import Derived.OneCell
namespace Go.Proofs.Ytfkccdmjlopleaa
open Go.RowKit

theorem i64_xor_nat (a b : Nat) (ha : a < 9223372036854775808) (hb : b < 9223372036854775808) : bits .xor .i64 (a : Int) (b : Int) = ((a ^^^ b : Nat) : Int) := by
  have hx : a ^^^ b < 2 ^ 63 := Nat.xor_lt_two_pow (by omega) (by omega)
  have ofInt : ∀ a : Nat, a < 9223372036854775808 → (BitVec.ofInt 64 (a : Int)).toNat = a := fun a ha => by
    rw [BitVec.ofInt_natCast, BitVec.toNat_ofNat]; exact Nat.mod_eq_of_lt (by omega)
  show IntKind.i64.wrap ((BitVec.ofInt 64 (a : Int) ^^^ BitVec.ofInt 64 (b : Int)).toNat : Int) = _
  rw [BitVec.toNat_xor, ofInt a ha, ofInt b hb, IntKind.wrap_i64]
  omega

theorem Rd.lt {w : World} {R N : Nat} (h : Rd w R N) : R < w.heap.size := by
  obtain ⟨A, n, c, p, _, _, hb, _⟩ := h
  rcases Nat.lt_or_ge R w.heap.size with h' | h'
  · exact h'
  · rw [Array.getElem?_eq_none h'] at hb; cases hb
theorem Rd.more {w : World} {R N N' : Nat} (h : Rd w R N) (hN : N ≤ N') : Rd w R N' := by
  obtain ⟨A, n, c, p, h1, h2, hb, hc⟩ := h
  exact ⟨A, n, c, p, by omega, h2, hb, hc⟩
theorem Rd.alloc {w : World} {R N : Nat} (h : Rd w R N) (o : Obj) : Rd (w.alloc o) R N := by
  have hlt := h.lt
  obtain ⟨A, n, c, p, h1, h2, hb, hc⟩ := h
  refine ⟨A, n, c, p, h1, h2, (Below.heap_alloc w o R hlt).trans hb, fun hn => ?_⟩
  obtain ⟨b, off, hA, hne, hcell⟩ := hc hn
  refine ⟨b, off, hA, hne, fun j hj => ?_⟩
  obtain ⟨x, x0, x1, hx⟩ := hcell j hj
  exact ⟨x, x0, x1, (World.cell?_alloc_lt _ _ _ (World.block_lt_of_cell? _ _ hx)).trans hx⟩
theorem Rd.drew {w : World} {R N : Nat} (h : Rd w R N) : Rd w.drew R N := h
theorem Rd.drewN {w : World} {R N : Nat} (h : Rd w R N) (n : Nat) : Rd (w.drewN n) R N := h
/-- What leaves the reader's block alone leaves the reader. -/
theorem Rd.grown {w w' : World} {R N : Nat} {row : Option Nat} (h : Rd w R N) (hg : w.grownBy w' row) (hne : some R ≠ row) (hcode : ∀ b, some b = row → R ≤ b) : Rd w' R N := by
  have hlt := h.lt
  obtain ⟨A, n, c, p, h1, h2, hb, hc⟩ := h
  refine ⟨A, n, c, p, h1, h2, (hg.block R hlt hne).trans hb, fun hn => ?_⟩
  obtain ⟨b, off, hA, hne', hcell⟩ := hc hn
  refine ⟨b, off, hA, hne', fun j hj => ?_⟩
  obtain ⟨x, x0, x1, hx⟩ := hcell j hj
  exact ⟨x, x0, x1, hg.cell hx (fun e => by have := hcode b e; omega)⟩

theorem Rd.new (w : World) (A : Option Addr) (n c : Nat) (hn : n ≤ 2000)
    (hc : 0 < n → ∃ b off, A = some ⟨b, off, none⟩ ∧ b < w.heap.size ∧ ∀ j, j < n → ∃ x : Int, 0 ≤ x ∧ x ≤ 255 ∧ w.cell? ⟨b, off + j, none⟩ = some (.int .u8 x)) :
    Rd (w.alloc (.cells #[.slice A n c, .int .i64 0] 48)) w.heap.size 0 := by
  refine ⟨A, n, c, 0, Nat.le_refl _, hn, heap_alloc_new w _, fun h0 => ?_⟩
  obtain ⟨b, off, hA, hb, hcell⟩ := hc h0
  refine ⟨b, off, hA, hb, fun j hj => ?_⟩
  obtain ⟨x, x0, x1, hx⟩ := hcell j hj
  exact ⟨x, x0, x1, (World.cell?_alloc_lt _ _ _ hb).trans hx⟩

theorem open_any (A : Option Addr) (n c : Nat) (w : World) (hn : n ≤ 1048576) (hnc : n ≤ c) (hcm : c ≤ maxLen) (hc : Code8 w A n) :
    Calls Try.prog 36 #[.slice A n c] w fun e w' => e = .returned (.pointer (some ⟨w.heap.size, 0, none⟩)) ∧ Rd w' w.heap.size 0 ∧ Below w.heap.size w w' := by
  by_cases h : 2000 < n
  · have hc2 : (2000 : Int) ≤ (c : Int) := by omega
    have hc' := hc
    obtain ⟨b, off, rfl, hb, hcell⟩ := hc (by omega)
    clear hc
    unfold maxLen at hcm
    go_enter Try.func36, Try.ntmps36
    go_wp2
    go_ret
    exact ⟨rfl, Rd.new w _ 2000 c (by omega) (fun _ => ⟨b, off, rfl, hb, fun j hj => hcell j (by omega)⟩), (Below.refl _ _).alloc (Nat.le_refl _) _⟩
  · unfold maxLen at hcm
    go_enter Try.func36, Try.ntmps36
    go_wp2
    go_ret
    exact ⟨rfl, Rd.new w _ n c (by omega) hc, (Below.refl _ _).alloc (Nat.le_refl _) _⟩

theorem Rd.step {w : World} {R N : Nat} {A : Option Addr} {n c p : Nat} (h1 : p ≤ N) (h2 : n ≤ 2000) (hb : w.heap[R]? = some (.cells #[.slice A n c, .int .i64 (p : Int)] 48 (0, 0)))
    (hc : 0 < n → ∃ b off, A = some ⟨b, off, none⟩ ∧ b < R ∧ ∀ j, j < n → ∃ x : Int, 0 ≤ x ∧ x ≤ 255 ∧ w.cell? ⟨b, off + j, none⟩ = some (.int .u8 x)) (k : Nat) :
    Rd ((w.setCell ⟨R, 1, none⟩ (.int .i64 ((p : Int) + 1))).drewN k) R (N + 1) ∧ w.grownBy ((w.setCell ⟨R, 1, none⟩ (.int .i64 ((p : Int) + 1))).drewN k) (some R) := by
  refine ⟨⟨A, n, c, p + 1, by omega, h2, ?_, fun hn => ?_⟩, ⟨rfl, rfl, rfl, by simp [World.setCell], fun b _ hne => ?_⟩⟩
  · show (w.setCell ⟨R, 1, none⟩ (.int .i64 ((p : Int) + 1))).heap[R]? = _
    simp [World.setCell, Array.getElem?_modify, hb]
  · obtain ⟨b, off, hA, hne', hcell⟩ := hc hn
    refine ⟨b, off, hA, hne', fun j hj => ?_⟩
    obtain ⟨x, x0, x1, hx⟩ := hcell j hj
    refine ⟨x, x0, x1, ?_⟩
    show (w.setCell ⟨R, 1, none⟩ (.int .i64 ((p : Int) + 1))).cell? _ = _
    rw [World.cell?_setCell_other _ _ _ _ (fun e => by have := congrArg Addr.block e; simp at this; omega)]
    exact hx
  · show (w.setCell ⟨R, 1, none⟩ (.int .i64 ((p : Int) + 1))).heap[b]? = _
    exact Below.heap_setCell _ _ _ _ (fun e => hne (by simp [e]))

/-- What pick answers. -/
def PickPost (R N : Nat) (m : Int) (w : World) (e : Ending) (w' : World) : Prop :=
  ∃ z, e = .returned (.int .i64 z) ∧ (1 ≤ m → 0 ≤ z ∧ z < m) ∧ (m < 1 → z = 0) ∧ Rd w' R (N + 1) ∧ w.grownBy w' (some R)

theorem pick_any (R N : Nat) (m : Int) (w : World) (hR : Rd w R N) (hN : N ≤ 1000000000000) :
    Calls Try.prog 41 #[.pointer (some ⟨R, 0, none⟩), .int .i64 m] w (PickPost R N m w) := by
  obtain ⟨A, n, c, p, h1, h2, hb, hc⟩ := hR
  have c0 : w.cell? ⟨R, 0, none⟩ = some (.slice A n c) := by rw [cell_of_row w R 0 _ _ _ hb]; rfl
  have c1 : w.cell? ⟨R, 1, none⟩ = some (.int .i64 (p : Int)) := by rw [cell_of_row w R 1 _ _ _ hb]; rfl
  have cf : w.frozen? ⟨R, 1, none⟩ = false := frozen_of_row w R 1 _ _ hb
  have S := Lib.hid (fun k => Rd.step (k := k) h1 h2 hb hc)
  have HC := Lib.hid hc
  clear hb hc
  by_cases hm : m < 1
  · go_enter Try.func41, Try.ntmps41
    go_wp2
    go_ret
    exact ⟨0, rfl, fun h => absurd h (by omega), fun _ => rfl, (S.out 0).1, (S.out 0).2⟩
  have hm1 : 1 ≤ m := by omega
  by_cases hn : n = 0
  · subst hn
    go_enter Try.func41, Try.ntmps41
    go_wp2
    go_ret
    exact ⟨0, rfl, fun h => ⟨by omega, by omega⟩, fun _ => rfl, (S.out 0).1, (S.out 0).2⟩
  have hn1 : 0 < n := by omega
  have hbit : ((n : Int) == 0) = false := by rw [beq_eq_false_iff_ne]; omega
  obtain ⟨b, off, rfl, hbR, hcell⟩ := HC.out hn1
  clear HC hn
  have hother : ∀ v o, (w.setCell ⟨R, 1, none⟩ v).cell? ⟨b, o, none⟩ = w.cell? ⟨b, o, none⟩ := fun v o =>
    World.cell?_setCell_other _ _ _ _ (fun e => by have := congrArg Addr.block e; simp at this; omega)
  by_cases hp : p < n
  · obtain ⟨x, x0, x1, hx⟩ := hcell p hp
    have hx' : (w.setCell ⟨R, 1, none⟩ (.int .i64 ((p : Int) + 1))).cell? ⟨b, off + p, none⟩ = some (.int .u8 x) := (hother _ _).trans hx
    clear hcell hother
    go_enter Try.func41, Try.ntmps41
    go_wp2
    go_ret
    exact ⟨x % m, rfl, fun _ => ⟨Int.emod_nonneg _ (by omega), Int.emod_lt_of_pos _ (by omega)⟩, fun h => absurd h (by omega), (S.out 0).1, (S.out 0).2⟩
  · obtain ⟨x, x0, x1, hx⟩ := hcell (p % n) (Nat.mod_lt _ hn1)
    obtain ⟨y, y0, y1, hy⟩ := hcell ((p * 7 + 3) % n) (Nat.mod_lt _ hn1)
    have hx' : (w.setCell ⟨R, 1, none⟩ (.int .i64 ((p : Int) + 1))).cell? ⟨b, off + p % n, none⟩ = some (.int .u8 x) := (hother _ _).trans hx
    have hy' : (w.setCell ⟨R, 1, none⟩ (.int .i64 ((p : Int) + 1))).cell? ⟨b, off + (p * 7 + 3) % n, none⟩ = some (.int .u8 y) := (hother _ _).trans hy
    have i1 : (0 : Int) ≤ (p : Int) % (n : Int) := Int.emod_nonneg _ (by omega)
    have i2 : (p : Int) % (n : Int) < (n : Int) := Int.emod_lt_of_pos _ (by omega)
    have i3 : (0 : Int) ≤ ((p : Int) * 7 + 3) % (n : Int) := Int.emod_nonneg _ (by omega)
    have i4 : ((p : Int) * 7 + 3) % (n : Int) < (n : Int) := Int.emod_lt_of_pos _ (by omega)
    have i5 : (0 : Int) ≤ (p : Int) / (n : Int) := Int.ediv_nonneg (by omega) (by omega)
    have i6 : (p : Int) / (n : Int) ≤ 1000000000000 := Int.le_trans (Int.ediv_le_self _ (by omega)) (by omega)
    have X0 : 0 ≤ bits .xor .i64 (x * 131 + y * 1117 + (p : Int) * 29 + (p : Int) / (n : Int) * 53) ((x * 131 + y * 1117 + (p : Int) * 29 + (p : Int) / (n : Int) * 53) / 64) := by
      obtain ⟨E, hE⟩ : ∃ E : Nat, x * 131 + y * 1117 + (p : Int) * 29 + (p : Int) / (n : Int) * 53 = (E : Int) := ⟨_, (Int.toNat_of_nonneg (by omega)).symm⟩
      rw [hE, show ((E : Int) / 64) = ((E / 64 : Nat) : Int) by omega, i64_xor_nat _ _ (by omega) (by omega)]
      exact Int.natCast_nonneg _
    clear hcell hother
    go_enter Try.func41, Try.ntmps41
    go_wp2
    go_quiet (fail)
    go_wp2
    go_ret
    refine ⟨_, rfl, fun _ => ?_, fun h => absurd h (by omega), (S.out _).1, (S.out _).2⟩
    exact ⟨Int.emod_nonneg _ (by omega), Int.emod_lt_of_pos _ (by omega)⟩

theorem pick_pos (R N : Nat) (m : Int) (w : World) (hR : Rd w R N) (hN : N ≤ 1000000000000) (hm : 1 ≤ m) :
    Calls Try.prog 41 #[.pointer (some ⟨R, 0, none⟩), .int .i64 m] w fun e w' => ∃ z, e = .returned (.int .i64 z) ∧ 0 ≤ z ∧ z < m ∧ Rd w' R (N + 1) ∧ w.grownBy w' (some R) :=
  (pick_any R N m w hR hN).mono fun _ _ ⟨z, he, h1, _, h3, h4⟩ => ⟨z, he, (h1 hm).1, (h1 hm).2, h3, h4⟩

/-- odd answers some bool; false where n is not positive. -/
theorem odd_any (R N : Nat) (n : Int) (w : World) (hR : Rd w R N) (hN : N ≤ 1000000000000) (_ : -1000000 ≤ n) :
    Calls Try.prog 42 #[.pointer (some ⟨R, 0, none⟩), .int .i64 n] w fun e w' => ∃ b, e = .returned (.bool b) ∧ (n ≤ 0 → b = false) ∧ Rd w' R (N + 1) ∧ w.grownBy w' (some R) := by
  by_cases h : 0 < n
  · go_enter Try.func42, Try.ntmps42
    go_wp2_with fail
    refine (pick_pos R N n _ hR hN (by omega)).mono ?_
    rintro e w' ⟨z, rfl, z0, z1, hr, hg⟩
    go_wp2
    go_ret
    exact ⟨_, rfl, fun h0 => absurd h0 (by omega), hr, hg⟩
  · go_enter Try.func42, Try.ntmps42
    go_wp2
    go_ret
    exact ⟨rfl, hR.more (by omega), World.grownBy.refl _ _⟩
end Go.Proofs.Ytfkccdmjlopleaa
