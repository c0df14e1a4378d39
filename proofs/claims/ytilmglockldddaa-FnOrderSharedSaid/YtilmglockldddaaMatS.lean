/- Words of the shared matrices: a struct of two matrices, six cells. (Printed by gen_S.py.) -/
import Derived.Test.YtilmglockldddaaMatV3
namespace Go.Proofs.Ytilmglockldddaa
open Go.RowKit

abbrev smV (r c : Int) (s : Value) (r2 c2 : Int) (s2 : Value) : Value := .agg #[.int .i64 r, .int .i64 c, s, .int .i64 r2, .int .i64 c2, s2]
/-- Block b holds a struct of six cells, which may be written. -/
structure Cell6 (w : World) (b : Nat) (x0 x1 x2 x3 x4 x5 : Value) : Prop where
  c0 : w.cell? ⟨b, 0, none⟩ = some x0
  c1 : w.cell? ⟨b, 1, none⟩ = some x1
  c2 : w.cell? ⟨b, 2, none⟩ = some x2
  c3 : w.cell? ⟨b, 3, none⟩ = some x3
  c4 : w.cell? ⟨b, 4, none⟩ = some x4
  c5 : w.cell? ⟨b, 5, none⟩ = some x5
  f0 : w.frozen? ⟨b, 0, none⟩ = false
  f1 : w.frozen? ⟨b, 1, none⟩ = false
  f2 : w.frozen? ⟨b, 2, none⟩ = false
  f3 : w.frozen? ⟨b, 3, none⟩ = false
  f4 : w.frozen? ⟨b, 4, none⟩ = false
  f5 : w.frozen? ⟨b, 5, none⟩ = false
  lt : b < w.heap.size
theorem Cell6.new (w : World) (x0 x1 x2 x3 x4 x5 : Value) (t : TypeId) : Cell6 (w.alloc (.cells #[x0, x1, x2, x3, x4, x5] t)) w.heap.size x0 x1 x2 x3 x4 x5 :=
  ⟨World.cell?_alloc_at _ _ _ _ rfl, World.cell?_alloc_at _ _ _ _ rfl, World.cell?_alloc_at _ _ _ _ rfl, World.cell?_alloc_at _ _ _ _ rfl, World.cell?_alloc_at _ _ _ _ rfl, World.cell?_alloc_at _ _ _ _ rfl, frozen_new w _ t 0, frozen_new w _ t 1, frozen_new w _ t 2, frozen_new w _ t 3, frozen_new w _ t 4, frozen_new w _ t 5, by simp⟩
theorem Cell6.grown {w w' : World} {b : Nat} {x0 x1 x2 x3 x4 x5 : Value} {row : Option Nat} (h : Cell6 w b x0 x1 x2 x3 x4 x5) (hg : w.grownBy w' row) (hne : some b ≠ row) : Cell6 w' b x0 x1 x2 x3 x4 x5 :=
  ⟨hg.cell h.c0 hne, hg.cell h.c1 hne, hg.cell h.c2 hne, hg.cell h.c3 hne, hg.cell h.c4 hne, hg.cell h.c5 hne, (frozen_grown hg h.lt hne).trans h.f0, (frozen_grown hg h.lt hne).trans h.f1, (frozen_grown hg h.lt hne).trans h.f2, (frozen_grown hg h.lt hne).trans h.f3, (frozen_grown hg h.lt hne).trans h.f4, (frozen_grown hg h.lt hne).trans h.f5, Nat.lt_of_lt_of_le h.lt hg.size⟩
theorem Cell6.below {w w' : World} {b B : Nat} {x0 x1 x2 x3 x4 x5 : Value} (h : Cell6 w b x0 x1 x2 x3 x4 x5) (hb : Below B w w') (hB : b < B) : Cell6 w' b x0 x1 x2 x3 x4 x5 :=
  ⟨(hb.cell (p := ⟨b, 0, none⟩) hB).trans h.c0, (hb.cell (p := ⟨b, 1, none⟩) hB).trans h.c1, (hb.cell (p := ⟨b, 2, none⟩) hB).trans h.c2, (hb.cell (p := ⟨b, 3, none⟩) hB).trans h.c3, (hb.cell (p := ⟨b, 4, none⟩) hB).trans h.c4, (hb.cell (p := ⟨b, 5, none⟩) hB).trans h.c5, (World.frozen?_of_block (a := ⟨b, 0, none⟩) (hb.block _ hB)).trans h.f0, (World.frozen?_of_block (a := ⟨b, 1, none⟩) (hb.block _ hB)).trans h.f1, (World.frozen?_of_block (a := ⟨b, 2, none⟩) (hb.block _ hB)).trans h.f2, (World.frozen?_of_block (a := ⟨b, 3, none⟩) (hb.block _ hB)).trans h.f3, (World.frozen?_of_block (a := ⟨b, 4, none⟩) (hb.block _ hB)).trans h.f4, (World.frozen?_of_block (a := ⟨b, 5, none⟩) (hb.block _ hB)).trans h.f5, Nat.lt_of_lt_of_le h.lt hb.size⟩
theorem Cell6.alloc {w : World} {b : Nat} {x0 x1 x2 x3 x4 x5 : Value} (h : Cell6 w b x0 x1 x2 x3 x4 x5) (o : Obj) : Cell6 (w.alloc o) b x0 x1 x2 x3 x4 x5 := h.grown (World.grownBy_alloc w o none) (by simp)
theorem Cell6.span {lo hi b : Nat} {w w' : World} {x0 x1 x2 x3 x4 x5 : Value} (h : Cell6 w b x0 x1 x2 x3 x4 x5) (k : Span lo hi w w') (hd : b < lo ∨ hi ≤ b) : Cell6 w' b x0 x1 x2 x3 x4 x5 := by
  have hb := k.block b h.lt hd
  exact ⟨(World.cell?_of_block (a := ⟨b, 0, none⟩) hb).trans h.c0, (World.cell?_of_block (a := ⟨b, 1, none⟩) hb).trans h.c1, (World.cell?_of_block (a := ⟨b, 2, none⟩) hb).trans h.c2, (World.cell?_of_block (a := ⟨b, 3, none⟩) hb).trans h.c3, (World.cell?_of_block (a := ⟨b, 4, none⟩) hb).trans h.c4, (World.cell?_of_block (a := ⟨b, 5, none⟩) hb).trans h.c5, (World.frozen?_of_block (a := ⟨b, 0, none⟩) hb).trans h.f0, (World.frozen?_of_block (a := ⟨b, 1, none⟩) hb).trans h.f1, (World.frozen?_of_block (a := ⟨b, 2, none⟩) hb).trans h.f2, (World.frozen?_of_block (a := ⟨b, 3, none⟩) hb).trans h.f3, (World.frozen?_of_block (a := ⟨b, 4, none⟩) hb).trans h.f4, (World.frozen?_of_block (a := ⟨b, 5, none⟩) hb).trans h.f5, Nat.lt_of_lt_of_le h.lt k.size⟩
theorem Cell6.set0 {w : World} {b : Nat} {x0 x1 x2 x3 x4 x5 : Value} (h : Cell6 w b x0 x1 x2 x3 x4 x5) (u : Value) : Cell6 (w.setCell ⟨b, 0, none⟩ u) b u x1 x2 x3 x4 x5 :=
  ⟨World.cell?_setCell_same _ _ _ h.c0, (World.cell?_setCell_other _ _ _ _ (by simp)).trans h.c1, (World.cell?_setCell_other _ _ _ _ (by simp)).trans h.c2, (World.cell?_setCell_other _ _ _ _ (by simp)).trans h.c3, (World.cell?_setCell_other _ _ _ _ (by simp)).trans h.c4, (World.cell?_setCell_other _ _ _ _ (by simp)).trans h.c5, by simp [h.f0], by simp [h.f1], by simp [h.f2], by simp [h.f3], by simp [h.f4], by simp [h.f5], by simpa using h.lt⟩
theorem Cell6.set1 {w : World} {b : Nat} {x0 x1 x2 x3 x4 x5 : Value} (h : Cell6 w b x0 x1 x2 x3 x4 x5) (u : Value) : Cell6 (w.setCell ⟨b, 1, none⟩ u) b x0 u x2 x3 x4 x5 :=
  ⟨(World.cell?_setCell_other _ _ _ _ (by simp)).trans h.c0, World.cell?_setCell_same _ _ _ h.c1, (World.cell?_setCell_other _ _ _ _ (by simp)).trans h.c2, (World.cell?_setCell_other _ _ _ _ (by simp)).trans h.c3, (World.cell?_setCell_other _ _ _ _ (by simp)).trans h.c4, (World.cell?_setCell_other _ _ _ _ (by simp)).trans h.c5, by simp [h.f0], by simp [h.f1], by simp [h.f2], by simp [h.f3], by simp [h.f4], by simp [h.f5], by simpa using h.lt⟩
theorem Cell6.set2 {w : World} {b : Nat} {x0 x1 x2 x3 x4 x5 : Value} (h : Cell6 w b x0 x1 x2 x3 x4 x5) (u : Value) : Cell6 (w.setCell ⟨b, 2, none⟩ u) b x0 x1 u x3 x4 x5 :=
  ⟨(World.cell?_setCell_other _ _ _ _ (by simp)).trans h.c0, (World.cell?_setCell_other _ _ _ _ (by simp)).trans h.c1, World.cell?_setCell_same _ _ _ h.c2, (World.cell?_setCell_other _ _ _ _ (by simp)).trans h.c3, (World.cell?_setCell_other _ _ _ _ (by simp)).trans h.c4, (World.cell?_setCell_other _ _ _ _ (by simp)).trans h.c5, by simp [h.f0], by simp [h.f1], by simp [h.f2], by simp [h.f3], by simp [h.f4], by simp [h.f5], by simpa using h.lt⟩
theorem Cell6.set3 {w : World} {b : Nat} {x0 x1 x2 x3 x4 x5 : Value} (h : Cell6 w b x0 x1 x2 x3 x4 x5) (u : Value) : Cell6 (w.setCell ⟨b, 3, none⟩ u) b x0 x1 x2 u x4 x5 :=
  ⟨(World.cell?_setCell_other _ _ _ _ (by simp)).trans h.c0, (World.cell?_setCell_other _ _ _ _ (by simp)).trans h.c1, (World.cell?_setCell_other _ _ _ _ (by simp)).trans h.c2, World.cell?_setCell_same _ _ _ h.c3, (World.cell?_setCell_other _ _ _ _ (by simp)).trans h.c4, (World.cell?_setCell_other _ _ _ _ (by simp)).trans h.c5, by simp [h.f0], by simp [h.f1], by simp [h.f2], by simp [h.f3], by simp [h.f4], by simp [h.f5], by simpa using h.lt⟩
theorem Cell6.set4 {w : World} {b : Nat} {x0 x1 x2 x3 x4 x5 : Value} (h : Cell6 w b x0 x1 x2 x3 x4 x5) (u : Value) : Cell6 (w.setCell ⟨b, 4, none⟩ u) b x0 x1 x2 x3 u x5 :=
  ⟨(World.cell?_setCell_other _ _ _ _ (by simp)).trans h.c0, (World.cell?_setCell_other _ _ _ _ (by simp)).trans h.c1, (World.cell?_setCell_other _ _ _ _ (by simp)).trans h.c2, (World.cell?_setCell_other _ _ _ _ (by simp)).trans h.c3, World.cell?_setCell_same _ _ _ h.c4, (World.cell?_setCell_other _ _ _ _ (by simp)).trans h.c5, by simp [h.f0], by simp [h.f1], by simp [h.f2], by simp [h.f3], by simp [h.f4], by simp [h.f5], by simpa using h.lt⟩
theorem Cell6.set5 {w : World} {b : Nat} {x0 x1 x2 x3 x4 x5 : Value} (h : Cell6 w b x0 x1 x2 x3 x4 x5) (u : Value) : Cell6 (w.setCell ⟨b, 5, none⟩ u) b x0 x1 x2 x3 x4 u :=
  ⟨(World.cell?_setCell_other _ _ _ _ (by simp)).trans h.c0, (World.cell?_setCell_other _ _ _ _ (by simp)).trans h.c1, (World.cell?_setCell_other _ _ _ _ (by simp)).trans h.c2, (World.cell?_setCell_other _ _ _ _ (by simp)).trans h.c3, (World.cell?_setCell_other _ _ _ _ (by simp)).trans h.c4, World.cell?_setCell_same _ _ _ h.c5, by simp [h.f0], by simp [h.f1], by simp [h.f2], by simp [h.f3], by simp [h.f4], by simp [h.f5], by simpa using h.lt⟩
theorem Cell6.far {w : World} {b : Nat} {x0 x1 x2 x3 x4 x5 : Value} (h : Cell6 w b x0 x1 x2 x3 x4 x5) {a : Addr} (hne : b ≠ a.block) (u : Value) : Cell6 (w.setCell a u) b x0 x1 x2 x3 x4 x5 :=
  ⟨(World.cell?_setCell_other _ _ _ _ (by intro e; rw [e] at hne; exact hne rfl)).trans h.c0, (World.cell?_setCell_other _ _ _ _ (by intro e; rw [e] at hne; exact hne rfl)).trans h.c1, (World.cell?_setCell_other _ _ _ _ (by intro e; rw [e] at hne; exact hne rfl)).trans h.c2, (World.cell?_setCell_other _ _ _ _ (by intro e; rw [e] at hne; exact hne rfl)).trans h.c3, (World.cell?_setCell_other _ _ _ _ (by intro e; rw [e] at hne; exact hne rfl)).trans h.c4, (World.cell?_setCell_other _ _ _ _ (by intro e; rw [e] at hne; exact hne rfl)).trans h.c5, by simp [h.f0], by simp [h.f1], by simp [h.f2], by simp [h.f3], by simp [h.f4], by simp [h.f5], by simpa using h.lt⟩
/-- The values of the two matrices: two rows, one behind the other, in the blocks lo .. hi. -/
def RowS (w : World) (lo hi : Nat) (s s2 : Value) (zs ks : List Int) : Prop := ∃ m, lo ≤ m ∧ m ≤ hi ∧ Row w lo m s zs ∧ Row w m hi s2 ks
section
variable {w w' : World} {lo hi : Nat} {s s2 : Value} {zs ks : List Int}
theorem RowS.below {B : Nat} (h : RowS w lo hi s s2 zs ks) (hb : Below B w w') (hB : hi ≤ B) : RowS w' lo hi s s2 zs ks := by
  obtain ⟨m, h1, h2, h3, h4⟩ := h
  exact ⟨m, h1, h2, h3.below hb (by omega), h4.below hb hB⟩
theorem RowS.wider {lo' hi' : Nat} (h : RowS w lo hi s s2 zs ks) (h1 : lo' ≤ lo) (h2 : hi ≤ hi') : RowS w lo' hi' s s2 zs ks := by
  obtain ⟨m, h3, h4, h5, h6⟩ := h
  exact ⟨m, by omega, by omega, h5.wider h1 (Nat.le_refl _), h6.wider (Nat.le_refl _) h2⟩
theorem RowS.grown {row : Option Nat} (h : RowS w lo hi s s2 zs ks) (hg : w.grownBy w' row) (hr : ∀ g, row = some g → g < lo ∨ hi ≤ g) : RowS w' lo hi s s2 zs ks := by
  obtain ⟨m, h1, h2, h3, h4⟩ := h
  exact ⟨m, h1, h2, h3.grown hg (fun g e => by have := hr g e; omega), h4.grown hg (fun g e => by have := hr g e; omega)⟩
theorem RowS.span {l h' : Nat} (hr : RowS w lo hi s s2 zs ks) (k : Span l h' w w') (hd : hi ≤ l ∨ h' ≤ lo) : RowS w' lo hi s s2 zs ks := by
  obtain ⟨m, h1, h2, h3, h4⟩ := hr
  exact ⟨m, h1, h2, h3.span k (by omega), h4.span k (by omega)⟩
theorem RowS.form (h : RowS w lo hi s s2 zs ks) : ∃ A c A2 c2, s = .slice A zs.length c ∧ s2 = .slice A2 ks.length c2 ∧ (zs.length ≤ c ∧ c ≤ maxLen) ∧ (ks.length ≤ c2 ∧ c2 ≤ maxLen) := by
  obtain ⟨m, h1, h2, h3, h4⟩ := h
  obtain ⟨A, c, rfl, a1, a2, _⟩ := h3.form
  obtain ⟨A2, c2, rfl, b1, b2, _⟩ := h4.form
  exact ⟨A, c, A2, c2, rfl, rfl, ⟨a1, a2⟩, b1, b2⟩
theorem RowS.sl1 {A : Option Addr} {c : Nat} (h : RowS w lo hi (.slice A zs.length c) s2 zs ks) : Sl w hi A zs := by
  obtain ⟨m, h1, h2, h3, h4⟩ := h
  exact h3.sl_of.2.more h2
theorem RowS.sl2 {A : Option Addr} {c : Nat} (h : RowS w lo hi s (.slice A ks.length c) zs ks) : Sl w hi A ks := by
  obtain ⟨m, h1, h2, h3, h4⟩ := h
  exact h4.sl_of.2
theorem RowS.nil_ (w : World) (lo hi : Nat) (h : lo ≤ hi) : RowS w lo hi (.slice none 0 0) (.slice none 0 0) [] [] := ⟨lo, Nat.le_refl _, h, Row.nil_ _ _ _, Row.nil_ _ _ _⟩
end
theorem szS_any (r c : Int) (A : Option Addr) (cap n : Nat) (r2 c2 : Int) (A2 : Option Addr) (cap2 n2 : Nat) (left : Int) (w : World) (h0 : 0 ≤ left) (h1 : left ≤ 1048576) (hn : n ≤ 9223372036854775807) (hn2 : n2 ≤ 9223372036854775807) :
    Calls Try.prog 26 #[smV r c (.slice A n cap) r2 c2 (.slice A2 n2 cap2), .int .i64 left] w fun e w' => e = .returned (.int .i64 (if left < (n : Int) then -1 else if left - (n : Int) < (n2 : Int) then -1 else left - (n : Int) - (n2 : Int))) ∧ Below w.heap.size w w' := by
  have hb : Below w.heap.size w (w.alloc (.cells #[.int .i64 r, .int .i64 c, .slice A n cap, .int .i64 r2, .int .i64 c2, .slice A2 n2 cap2] 44)) := (Below.refl _ _).alloc (Nat.le_refl _) _
  have q0 := Cell6.new w (.int .i64 r) (.int .i64 c) (.slice A n cap) (.int .i64 r2) (.int .i64 c2) (.slice A2 n2 cap2) 44
  obtain ⟨W, hW⟩ : ∃ W, w.alloc (.cells #[.int .i64 r, .int .i64 c, .slice A n cap, .int .i64 r2, .int .i64 c2, .slice A2 n2 cap2] 44) = W := ⟨_, rfl⟩
  rw [hW] at hb q0
  have HB := Lib.hid hb
  have Q0 := Lib.hid q0
  have hsz := hb.size
  clear hb
  obtain ⟨a0, a1, a2, a3, a4, a5, _, _, _, _, _, _, alt⟩ := q0
  by_cases h : left < (n : Int)
  · rw [if_pos h]
    have hS := szM_any r c A n cap left W h0 h1 hn
    rw [if_pos h] at hS
    go_enter Try.func26, Try.ntmps26
    go_wp2_with fail
    refine hS.mono ?_
    rintro e w' ⟨rfl, hb2⟩
    have HB2 := Lib.hid (HB.out.trans (hb2.mono hsz))
    clear hS hb2 a0 a1 a2 a3 a4 a5 alt
    go_wp2
    go_ret
    exact ⟨rfl, HB2.out⟩
  · rw [if_neg h]
    have hS := szM_any r c A n cap left W h0 h1 hn
    rw [if_neg h] at hS
    have hd : decide (left - (n : Int) < 0) = false := by simp; omega
    obtain ⟨l1, hl1⟩ : ∃ l, left - (n : Int) = l := ⟨_, rfl⟩
    rw [hl1] at hS hd ⊢
    have hl : 0 ≤ l1 ∧ l1 ≤ 1048576 := by omega
    clear hl1
    by_cases h' : l1 < (n2 : Int)
    · rw [if_pos h']
      go_enter Try.func26, Try.ntmps26
      go_wp2_with fail
      refine hS.mono ?_
      rintro e w2 ⟨rfl, hb2⟩
      have hsz2 := hb2.size
      have Q2 := Lib.hid (Q0.out.below hb2 (by have := Q0.out.lt; omega))
      have HB2 := Lib.hid (HB.out.trans (hb2.mono hsz))
      clear hS hb2 a0 a1 a2 a3 a4 a5 alt
      obtain ⟨a0, a1, a2, a3, a4, a5, _, _, _, _, _, _, alt⟩ := Q2.out
      have hS := szM_any r2 c2 A2 n2 cap2 l1 w2 hl.1 hl.2 hn2
      rw [if_pos h'] at hS
      go_wp2_with fail
      refine hS.mono ?_
      rintro e w' ⟨rfl, hb3⟩
      have HB3 := Lib.hid (HB2.out.trans (hb3.mono (by omega)))
      clear hS hb3 a0 a1 a2 a3 a4 a5 alt
      go_wp2
      go_ret
      exact ⟨rfl, HB3.out⟩
    · rw [if_neg h']
      have hd2 : decide (l1 - (n2 : Int) < 0) = false := by simp; omega
      go_enter Try.func26, Try.ntmps26
      go_wp2_with fail
      refine hS.mono ?_
      rintro e w2 ⟨rfl, hb2⟩
      have hsz2 := hb2.size
      have Q2 := Lib.hid (Q0.out.below hb2 (by have := Q0.out.lt; omega))
      have HB2 := Lib.hid (HB.out.trans (hb2.mono hsz))
      clear hS hb2 a0 a1 a2 a3 a4 a5 alt
      obtain ⟨a0, a1, a2, a3, a4, a5, _, _, _, _, _, _, alt⟩ := Q2.out
      have hS := szM_any r2 c2 A2 n2 cap2 l1 w2 hl.1 hl.2 hn2
      rw [if_neg (show ¬ l1 < (n2 : Int) by omega)] at hS
      go_wp2_with fail
      refine hS.mono ?_
      rintro e w' ⟨rfl, hb3⟩
      have HB3 := Lib.hid (HB2.out.trans (hb3.mono (by omega)))
      clear hS hb3 a0 a1 a2 a3 a4 a5 alt
      go_wp2
      go_ret
      exact ⟨rfl, HB3.out⟩
theorem eqS_same (r c : Int) (A A' : Option Addr) (k k' : Nat) (zs : List Int) (r2 c2 : Int) (A2 A2' : Option Addr) (k2 k2' : Nat) (ks : List Int) (w : World) (h1 : Sl w w.heap.size A zs) (h1' : Sl w w.heap.size A' zs) (h2 : Sl w w.heap.size A2 ks) (h2' : Sl w w.heap.size A2' ks) (hn : zs.length ≤ 4611686018427387904) (hn2 : ks.length ≤ 4611686018427387904) :
    Calls Try.prog 30 #[smV r c (.slice A zs.length k) r2 c2 (.slice A2 ks.length k2), smV r c (.slice A' zs.length k') r2 c2 (.slice A2' ks.length k2')] w fun e w' => e = .returned (.bool true) ∧ Below w.heap.size w w' := by
  have q0 := (Cell6.new w (.int .i64 r) (.int .i64 c) (.slice A zs.length k) (.int .i64 r2) (.int .i64 c2) (.slice A2 ks.length k2) 47).alloc (.cells #[.int .i64 r, .int .i64 c, .slice A' zs.length k', .int .i64 r2, .int .i64 c2, .slice A2' ks.length k2'] 47)
  have q1 := Cell6.new (w.alloc (.cells #[.int .i64 r, .int .i64 c, .slice A zs.length k, .int .i64 r2, .int .i64 c2, .slice A2 ks.length k2] 47)) (.int .i64 r) (.int .i64 c) (.slice A' zs.length k') (.int .i64 r2) (.int .i64 c2) (.slice A2' ks.length k2') 47
  simp only [World.size_alloc] at q1
  have hb : Below w.heap.size w ((w.alloc (.cells #[.int .i64 r, .int .i64 c, .slice A zs.length k, .int .i64 r2, .int .i64 c2, .slice A2 ks.length k2] 47)).alloc (.cells #[.int .i64 r, .int .i64 c, .slice A' zs.length k', .int .i64 r2, .int .i64 c2, .slice A2' ks.length k2'] 47)) := ((Below.refl _ _).alloc (Nat.le_refl _) _).alloc (by simp) _
  obtain ⟨W, hW⟩ : ∃ W, (w.alloc (.cells #[.int .i64 r, .int .i64 c, .slice A zs.length k, .int .i64 r2, .int .i64 c2, .slice A2 ks.length k2] 47)).alloc (.cells #[.int .i64 r, .int .i64 c, .slice A' zs.length k', .int .i64 r2, .int .i64 c2, .slice A2' ks.length k2'] 47) = W := ⟨_, rfl⟩
  rw [hW] at q0 q1 hb
  have hsz := hb.size
  have S1 := Lib.hid ((h1.below hb (Nat.le_refl _)).more hsz)
  have S1' := Lib.hid ((h1'.below hb (Nat.le_refl _)).more hsz)
  have S2 := Lib.hid ((h2.below hb (Nat.le_refl _)).more hsz)
  have S2' := Lib.hid ((h2'.below hb (Nat.le_refl _)).more hsz)
  have HB := Lib.hid hb
  have Q0 := Lib.hid q0
  have Q1 := Lib.hid q1
  obtain ⟨a0, a1, a2, a3, a4, a5, _, _, _, _, _, _, alt⟩ := q0
  obtain ⟨b0, b1, b2, b3, b4, b5, _, _, _, _, _, _, blt⟩ := q1
  clear h1 h1' h2 h2' hb
  go_enter Try.func30, Try.ntmps30
  go_wp2_with fail
  refine (eqM_same r c A A' k k' zs W S1.out S1'.out hn).mono ?_
  rintro e w2 ⟨rfl, hb2⟩
  have hsz2 := hb2.size
  have P0 := Lib.hid (Q0.out.below hb2 alt)
  have P1 := Lib.hid (Q1.out.below hb2 blt)
  have T2 := Lib.hid ((S2.out.below hb2 (Nat.le_refl _)).more hsz2)
  have T2' := Lib.hid ((S2'.out.below hb2 (Nat.le_refl _)).more hsz2)
  have HB2 := Lib.hid (HB.out.trans (hb2.mono hsz))
  clear hb2 a0 a1 a2 a3 a4 a5 alt b0 b1 b2 b3 b4 b5 blt Q0 Q1 S1 S1' S2 S2' HB
  obtain ⟨a0, a1, a2, a3, a4, a5, _, _, _, _, _, _, alt⟩ := P0.out
  obtain ⟨b0, b1, b2, b3, b4, b5, _, _, _, _, _, _, blt⟩ := P1.out
  go_wp2_with fail
  refine (eqM_same r2 c2 A2 A2' k2 k2' ks w2 T2.out T2'.out hn2).mono ?_
  rintro e w3 ⟨rfl, hb3⟩
  have HB3 := Lib.hid (HB2.out.trans (hb3.mono (by omega)))
  clear hb3 a0 a1 a2 a3 a4 a5 alt b0 b1 b2 b3 b4 b5 blt
  go_wp2
  go_ret
  exact ⟨rfl, HB3.out⟩
theorem sameS_same (r c : Int) (A A' : Option Addr) (k k' : Nat) (zs : List Int) (r2 c2 : Int) (A2 A2' : Option Addr) (k2 k2' : Nat) (ks : List Int) (w : World) (h1 : Sl w w.heap.size A zs) (h1' : Sl w w.heap.size A' zs) (h2 : Sl w w.heap.size A2 ks) (h2' : Sl w w.heap.size A2' ks) (hn : zs.length ≤ 4611686018427387904) (hn2 : ks.length ≤ 4611686018427387904) :
    Calls Try.prog 34 #[smV r c (.slice A zs.length k) r2 c2 (.slice A2 ks.length k2), smV r c (.slice A' zs.length k') r2 c2 (.slice A2' ks.length k2')] w fun e w' => e = .returned (.bool true) ∧ Below w.heap.size w w' := by
  have q0 := (Cell6.new w (.int .i64 r) (.int .i64 c) (.slice A zs.length k) (.int .i64 r2) (.int .i64 c2) (.slice A2 ks.length k2) 47).alloc (.cells #[.int .i64 r, .int .i64 c, .slice A' zs.length k', .int .i64 r2, .int .i64 c2, .slice A2' ks.length k2'] 47)
  have q1 := Cell6.new (w.alloc (.cells #[.int .i64 r, .int .i64 c, .slice A zs.length k, .int .i64 r2, .int .i64 c2, .slice A2 ks.length k2] 47)) (.int .i64 r) (.int .i64 c) (.slice A' zs.length k') (.int .i64 r2) (.int .i64 c2) (.slice A2' ks.length k2') 47
  simp only [World.size_alloc] at q1
  have hb : Below w.heap.size w ((w.alloc (.cells #[.int .i64 r, .int .i64 c, .slice A zs.length k, .int .i64 r2, .int .i64 c2, .slice A2 ks.length k2] 47)).alloc (.cells #[.int .i64 r, .int .i64 c, .slice A' zs.length k', .int .i64 r2, .int .i64 c2, .slice A2' ks.length k2'] 47)) := ((Below.refl _ _).alloc (Nat.le_refl _) _).alloc (by simp) _
  obtain ⟨W, hW⟩ : ∃ W, (w.alloc (.cells #[.int .i64 r, .int .i64 c, .slice A zs.length k, .int .i64 r2, .int .i64 c2, .slice A2 ks.length k2] 47)).alloc (.cells #[.int .i64 r, .int .i64 c, .slice A' zs.length k', .int .i64 r2, .int .i64 c2, .slice A2' ks.length k2'] 47) = W := ⟨_, rfl⟩
  rw [hW] at q0 q1 hb
  have hsz := hb.size
  have S1 := Lib.hid ((h1.below hb (Nat.le_refl _)).more hsz)
  have S1' := Lib.hid ((h1'.below hb (Nat.le_refl _)).more hsz)
  have S2 := Lib.hid ((h2.below hb (Nat.le_refl _)).more hsz)
  have S2' := Lib.hid ((h2'.below hb (Nat.le_refl _)).more hsz)
  have HB := Lib.hid hb
  have Q0 := Lib.hid q0
  have Q1 := Lib.hid q1
  obtain ⟨a0, a1, a2, a3, a4, a5, _, _, _, _, _, _, alt⟩ := q0
  obtain ⟨b0, b1, b2, b3, b4, b5, _, _, _, _, _, _, blt⟩ := q1
  clear h1 h1' h2 h2' hb
  go_enter Try.func34, Try.ntmps34
  go_wp2_with fail
  refine (sameM_same r c A A' k k' zs W S1.out S1'.out hn).mono ?_
  rintro e w2 ⟨rfl, hb2⟩
  have hsz2 := hb2.size
  have P0 := Lib.hid (Q0.out.below hb2 alt)
  have P1 := Lib.hid (Q1.out.below hb2 blt)
  have T2 := Lib.hid ((S2.out.below hb2 (Nat.le_refl _)).more hsz2)
  have T2' := Lib.hid ((S2'.out.below hb2 (Nat.le_refl _)).more hsz2)
  have HB2 := Lib.hid (HB.out.trans (hb2.mono hsz))
  clear hb2 a0 a1 a2 a3 a4 a5 alt b0 b1 b2 b3 b4 b5 blt Q0 Q1 S1 S1' S2 S2' HB
  obtain ⟨a0, a1, a2, a3, a4, a5, _, _, _, _, _, _, alt⟩ := P0.out
  obtain ⟨b0, b1, b2, b3, b4, b5, _, _, _, _, _, _, blt⟩ := P1.out
  go_wp2_with fail
  refine (sameM_same r2 c2 A2 A2' k2 k2' ks w2 T2.out T2'.out hn2).mono ?_
  rintro e w3 ⟨rfl, hb3⟩
  have HB3 := Lib.hid (HB2.out.trans (hb3.mono (by omega)))
  clear hb3 a0 a1 a2 a3 a4 a5 alt b0 b1 b2 b3 b4 b5 blt
  go_wp2
  go_ret
  exact ⟨rfl, HB3.out⟩
theorem markS_any (lo hi : Nat) (r c : Int) (A : Option Addr) (cap : Nat) (zs : List Int) (r2 c2 : Int) (A2 : Option Addr) (cap2 : Nat) (ks : List Int) (k : Int) (w : World) (h : RowS w lo hi (.slice A zs.length cap) (.slice A2 ks.length cap2) zs ks) (hhi : hi ≤ w.heap.size) (hn : zs.length ≤ 2000000) (hn2 : ks.length ≤ 2000000) (k0 : 0 ≤ k) (k1 : k ≤ 1000000000000000000) :
    Calls Try.prog 31 #[smV r c (.slice A zs.length cap) r2 c2 (.slice A2 ks.length cap2), .int .i64 k] w fun e w' => e = .returned (.int .i64 (k + (zs.length : Int) + (ks.length : Int))) ∧ RowS w' lo hi (.slice A zs.length cap) (.slice A2 ks.length cap2) (marks k zs.length) (marks (k + (zs.length : Int)) ks.length) ∧ Span lo hi w w' := by
  obtain ⟨m, hm1, hm2, hr1, hr2⟩ := h
  have q0 := Cell6.new w (.int .i64 r) (.int .i64 c) (.slice A zs.length cap) (.int .i64 r2) (.int .i64 c2) (.slice A2 ks.length cap2) 47
  have hg := World.grownBy_alloc w (.cells #[.int .i64 r, .int .i64 c, .slice A zs.length cap, .int .i64 r2, .int .i64 c2, .slice A2 ks.length cap2] 47) none
  have hsw : (w.alloc (.cells #[.int .i64 r, .int .i64 c, .slice A zs.length cap, .int .i64 r2, .int .i64 c2, .slice A2 ks.length cap2] 47)).heap.size = w.heap.size + 1 := by simp
  obtain ⟨W, hW⟩ : ∃ W, w.alloc (.cells #[.int .i64 r, .int .i64 c, .slice A zs.length cap, .int .i64 r2, .int .i64 c2, .slice A2 ks.length cap2] 47) = W := ⟨_, rfl⟩
  rw [hW] at q0 hg hsw
  have R1 := Lib.hid (hr1.grown hg (fun g e => by cases e))
  have R2 := Lib.hid (hr2.grown hg (fun g e => by cases e))
  have SP := Lib.hid (Span.of_grown (lo := lo) (hi := hi) hg (fun g e => by cases e))
  have Q0 := Lib.hid q0
  clear hr1 hr2 hg
  obtain ⟨a0, a1, a2, a3, a4, a5, _, _, _, _, _, _, alt⟩ := q0
  obtain ⟨k2, hk2⟩ : ∃ x, k + (zs.length : Int) = x := ⟨_, rfl⟩
  have hkr : 0 ≤ k2 ∧ k2 ≤ 2000000000000000000 := by omega
  rw [hk2]
  have HK := Lib.hid hk2
  clear hk2
  go_enter Try.func31, Try.ntmps31
  go_wp2_with fail
  refine (markM_any lo m r c A cap zs k W R1.out (by omega) hn k0 (by omega)).mono ?_
  rw [HK.out]
  rintro e w2 ⟨rfl, hrm, hsp⟩
  have hs2 := hsp.size
  have P0 := Lib.hid (Q0.out.span hsp (show w.heap.size < lo ∨ m ≤ w.heap.size by omega))
  have P1 := Lib.hid hrm
  have P2 := Lib.hid (R2.out.span hsp (show hi ≤ lo ∨ m ≤ m by omega))
  have SP2 := Lib.hid (SP.out.trans (hsp.wider (Nat.le_refl _) hm2))
  clear hrm hsp Q0 R1 R2 SP a0 a1 a2 a3 a4 a5 alt
  obtain ⟨a0, a1, a2, a3, a4, a5, _, _, _, _, _, _, alt⟩ := P0.out
  go_wp2_with fail
  refine (markM_any m hi r2 c2 A2 cap2 ks k2 w2 P2.out (by omega) hn2 hkr.1 (by omega)).mono ?_
  rintro e w3 ⟨rfl, hrm, hsp⟩
  have N1 := Lib.hid (P1.out.span hsp (show m ≤ m ∨ hi ≤ lo by omega))
  have N2 := Lib.hid hrm
  have SP3 := Lib.hid (SP2.out.trans (hsp.wider hm1 (Nat.le_refl _)))
  clear hrm hsp a0 a1 a2 a3 a4 a5 alt
  go_wp2
  go_ret
  exact ⟨rfl, ⟨m, hm1, hm2, N1.out, N2.out⟩, SP3.out⟩
theorem heldS_same (B : Nat) (r c : Int) (A : Option Addr) (cap n : Nat) (r2 c2 : Int) (A2 : Option Addr) (cap2 n2 : Nat) (k : Int) (w : World) (h : Sl w B A (marks k n)) (h2 : Sl w B A2 (marks (k + (n : Int)) n2)) (hB : B ≤ w.heap.size) (hn : n ≤ 2000000) (hn2 : n2 ≤ 2000000) (k0 : 0 ≤ k) (k1 : k ≤ 1000000000000000000) :
    Calls Try.prog 32 #[smV r c (.slice A n cap) r2 c2 (.slice A2 n2 cap2), .int .i64 k] w fun e w' => e = .returned (.int .i64 (k + (n : Int) + (n2 : Int))) ∧ Below w.heap.size w w' := by
  have q0 := Cell6.new w (.int .i64 r) (.int .i64 c) (.slice A n cap) (.int .i64 r2) (.int .i64 c2) (.slice A2 n2 cap2) 47
  have hb : Below w.heap.size w (w.alloc (.cells #[.int .i64 r, .int .i64 c, .slice A n cap, .int .i64 r2, .int .i64 c2, .slice A2 n2 cap2] 47)) := (Below.refl _ _).alloc (Nat.le_refl _) _
  obtain ⟨W, hW⟩ : ∃ W, w.alloc (.cells #[.int .i64 r, .int .i64 c, .slice A n cap, .int .i64 r2, .int .i64 c2, .slice A2 n2 cap2] 47) = W := ⟨_, rfl⟩
  rw [hW] at q0 hb
  have hsz := hb.size
  have S1 := Lib.hid (h.below hb hB)
  have S2 := Lib.hid (h2.below hb hB)
  have HB := Lib.hid hb
  have Q0 := Lib.hid q0
  clear h h2 hb
  obtain ⟨a0, a1, a2, a3, a4, a5, _, _, _, _, _, _, alt⟩ := q0
  have hd : decide (k + (n : Int) < 0) = false := by simp; omega
  obtain ⟨k2, hk2⟩ : ∃ x, k + (n : Int) = x := ⟨_, rfl⟩
  have hkr : 0 ≤ k2 ∧ k2 ≤ 2000000000000000000 := by omega
  rw [hk2] at S2 hd ⊢
  have HK := Lib.hid hk2
  clear hk2
  have hd2 : decide (k2 + (n2 : Int) < 0) = false := by simp; omega
  go_enter Try.func32, Try.ntmps32
  go_wp2_with fail
  refine (heldM_same B r c A cap n k W S1.out (by omega) hn k0 (by omega)).mono ?_
  rw [HK.out]
  rintro e w2 ⟨rfl, hb2⟩
  have hs2 := hb2.size
  have P0 := Lib.hid (Q0.out.below hb2 alt)
  have T2 := Lib.hid (S2.out.below hb2 (by omega))
  have HB2 := Lib.hid (HB.out.trans (hb2.mono hsz))
  clear hb2 a0 a1 a2 a3 a4 a5 alt Q0 S1 S2 HB
  obtain ⟨a0, a1, a2, a3, a4, a5, _, _, _, _, _, _, alt⟩ := P0.out
  go_wp2_with fail
  refine (heldM_same B r2 c2 A2 cap2 n2 k2 w2 T2.out (by omega) hn2 hkr.1 (by omega)).mono ?_
  rintro e w3 ⟨rfl, hb3⟩
  have HB3 := Lib.hid (HB2.out.trans (hb3.mono (by omega)))
  clear hb3 a0 a1 a2 a3 a4 a5 alt
  go_wp2
  go_ret
  exact ⟨rfl, HB3.out⟩
set_option maxHeartbeats 1600000 in
theorem toS_any (r c : Int) (A : Option Addr) (cap n B : Nat) (zs : List Int) (r2 c2 : Int) (A2 : Option Addr) (cap2 n2 B2 : Nat) (ks : List Int) (w : World) (hs : Sl w B A zs) (hB : B ≤ w.heap.size) (e : n = zs.length) (hn : n ≤ 1100000) (hs2 : Sl w B2 A2 ks) (hB2 : B2 ≤ w.heap.size) (e2 : n2 = ks.length) (hn2 : n2 ≤ 1100000) :
    Calls Try.prog 28 #[smV r c (.slice A n cap) r2 c2 (.slice A2 n2 cap2)] w fun e w' => ∃ s s2, e = .returned (smV r c s r2 c2 s2) ∧ RowS w' w.heap.size w'.heap.size s s2 zs ks ∧ Below w.heap.size w w' := by
  subst e
  subst e2
  have q0 := ((Cell6.new w (.int .i64 r) (.int .i64 c) (.slice A zs.length cap) (.int .i64 r2) (.int .i64 c2) (.slice A2 ks.length cap2) 44).alloc (.cells #[.int .i64 0, .int .i64 0, .slice none 0 0, .int .i64 0, .int .i64 0, .slice none 0 0] 47)).alloc (.cells #[.int .i64 0, .int .i64 0, .slice none 0 0, .int .i64 0, .int .i64 0, .slice none 0 0] 47)
  have q1 := (Cell6.new (w.alloc (.cells #[.int .i64 r, .int .i64 c, .slice A zs.length cap, .int .i64 r2, .int .i64 c2, .slice A2 ks.length cap2] 44)) (.int .i64 0) (.int .i64 0) (.slice none 0 0) (.int .i64 0) (.int .i64 0) (.slice none 0 0) 47).alloc (.cells #[.int .i64 0, .int .i64 0, .slice none 0 0, .int .i64 0, .int .i64 0, .slice none 0 0] 47)
  have q2 := Cell6.new ((w.alloc (.cells #[.int .i64 r, .int .i64 c, .slice A zs.length cap, .int .i64 r2, .int .i64 c2, .slice A2 ks.length cap2] 44)).alloc (.cells #[.int .i64 0, .int .i64 0, .slice none 0 0, .int .i64 0, .int .i64 0, .slice none 0 0] 47)) (.int .i64 0) (.int .i64 0) (.slice none 0 0) (.int .i64 0) (.int .i64 0) (.slice none 0 0) 47
  have hb : Below w.heap.size w (((w.alloc (.cells #[.int .i64 r, .int .i64 c, .slice A zs.length cap, .int .i64 r2, .int .i64 c2, .slice A2 ks.length cap2] 44)).alloc (.cells #[.int .i64 0, .int .i64 0, .slice none 0 0, .int .i64 0, .int .i64 0, .slice none 0 0] 47)).alloc (.cells #[.int .i64 0, .int .i64 0, .slice none 0 0, .int .i64 0, .int .i64 0, .slice none 0 0] 47)) := (((Below.refl _ _).alloc (Nat.le_refl _) _).alloc (by simp) _).alloc (by simp; omega) _
  have hsz : (((w.alloc (.cells #[.int .i64 r, .int .i64 c, .slice A zs.length cap, .int .i64 r2, .int .i64 c2, .slice A2 ks.length cap2] 44)).alloc (.cells #[.int .i64 0, .int .i64 0, .slice none 0 0, .int .i64 0, .int .i64 0, .slice none 0 0] 47)).alloc (.cells #[.int .i64 0, .int .i64 0, .slice none 0 0, .int .i64 0, .int .i64 0, .slice none 0 0] 47)).heap.size = w.heap.size + 3 := by simp
  simp only [World.size_alloc] at q1 q2
  obtain ⟨W, hW⟩ : ∃ W, ((w.alloc (.cells #[.int .i64 r, .int .i64 c, .slice A zs.length cap, .int .i64 r2, .int .i64 c2, .slice A2 ks.length cap2] 44)).alloc (.cells #[.int .i64 0, .int .i64 0, .slice none 0 0, .int .i64 0, .int .i64 0, .slice none 0 0] 47)).alloc (.cells #[.int .i64 0, .int .i64 0, .slice none 0 0, .int .i64 0, .int .i64 0, .slice none 0 0] 47) = W := ⟨_, rfl⟩
  rw [hW] at q0 q1 q2 hb hsz
  have S1 := Lib.hid (hs.below hb hB)
  have S2 := Lib.hid (hs2.below hb hB2)
  have HB := Lib.hid hb
  have Q0 := Lib.hid q0
  have Q1 := Lib.hid q1
  have Q2 := Lib.hid q2
  clear hs hs2 hb
  obtain ⟨a0, a1, a2, a3, a4, a5, _, _, _, _, _, _, alt⟩ := q0
  obtain ⟨b0, b1, b2, b3, b4, b5, fb0, fb1, fb2, fb3, fb4, fb5, blt⟩ := q1
  obtain ⟨d0, d1, d2, d3, d4, d5, fd0, fd1, fd2, fd3, fd4, fd5, dlt⟩ := q2
  go_enter Try.func28, Try.ntmps28
  go_wp2_with fail
  refine (toM_any r c A cap _ B zs W S1.out (by omega) rfl hn).mono ?_
  rintro e w2 ⟨v2, rfl, hr2, hb2⟩
  obtain ⟨A3, c3, rfl, _, _, _⟩ := hr2.form
  have hsz2 := hb2.size
  have P0 := Lib.hid (Q0.out.below hb2 (by omega))
  have P1 := Lib.hid (Q1.out.below hb2 (by omega))
  have P2 := Lib.hid (Q2.out.below hb2 (by omega))
  have T2 := Lib.hid (S2.out.below hb2 (by omega))
  have HB2 := Lib.hid (HB.out.trans (hb2.mono (by omega)))
  have HR2 := Lib.hid hr2
  clear hr2 hb2 a0 a1 a2 a3 a4 a5 alt b0 b1 b2 b3 b4 b5 fb0 fb1 fb2 fb3 fb4 fb5 blt d0 d1 d2 d3 d4 d5 fd0 fd1 fd2 fd3 fd4 fd5 dlt Q0 Q1 Q2 S1 S2 HB
  obtain ⟨a0, a1, a2, a3, a4, a5, _, _, _, _, _, _, alt⟩ := P0.out
  obtain ⟨d0, d1, d2, d3, d4, d5, fd0, fd1, fd2, fd3, fd4, fd5, dlt⟩ := P2.out
  have M0 := Lib.hid (((P0.out.far (a := ⟨w.heap.size + 1 + 1, 0, none⟩) (show w.heap.size ≠ w.heap.size + 1 + 1 by omega) (.int .i64 r)).far (a := ⟨w.heap.size + 1 + 1, 1, none⟩) (show w.heap.size ≠ w.heap.size + 1 + 1 by omega) (.int .i64 c)).far (a := ⟨w.heap.size + 1 + 1, 2, none⟩) (show w.heap.size ≠ w.heap.size + 1 + 1 by omega) (.slice A3 zs.length c3))
  have M1 := Lib.hid (((P1.out.far (a := ⟨w.heap.size + 1 + 1, 0, none⟩) (show w.heap.size + 1 ≠ w.heap.size + 1 + 1 by omega) (.int .i64 r)).far (a := ⟨w.heap.size + 1 + 1, 1, none⟩) (show w.heap.size + 1 ≠ w.heap.size + 1 + 1 by omega) (.int .i64 c)).far (a := ⟨w.heap.size + 1 + 1, 2, none⟩) (show w.heap.size + 1 ≠ w.heap.size + 1 + 1 by omega) (.slice A3 zs.length c3))
  have M2 := Lib.hid (((P2.out.set0 (.int .i64 r)).set1 (.int .i64 c)).set2 (.slice A3 zs.length c3))
  have MR := Lib.hid (((HR2.out.grown (set_grown _ (w.heap.size + 1 + 1) 0 (.int .i64 r)) (fun g e => by cases e; left; omega)).grown (set_grown _ (w.heap.size + 1 + 1) 1 (.int .i64 c)) (fun g e => by cases e; left; omega)).grown (set_grown _ (w.heap.size + 1 + 1) 2 (.slice A3 zs.length c3)) (fun g e => by cases e; left; omega))
  have MB := Lib.hid (((HB2.out.setCell (p := ⟨w.heap.size + 1 + 1, 0, none⟩) (show w.heap.size ≤ w.heap.size + 1 + 1 by omega) (.int .i64 r)).setCell (p := ⟨w.heap.size + 1 + 1, 1, none⟩) (show w.heap.size ≤ w.heap.size + 1 + 1 by omega) (.int .i64 c)).setCell (p := ⟨w.heap.size + 1 + 1, 2, none⟩) (show w.heap.size ≤ w.heap.size + 1 + 1 by omega) (.slice A3 zs.length c3))
  have MS : (((w2.setCell ⟨w.heap.size + 1 + 1, 0, none⟩ (.int .i64 r)).setCell ⟨w.heap.size + 1 + 1, 1, none⟩ (.int .i64 c)).setCell ⟨w.heap.size + 1 + 1, 2, none⟩ (.slice A3 zs.length c3)).heap.size = w2.heap.size := by simp
  have MT := Lib.hid (show Sl (((w2.setCell ⟨w.heap.size + 1 + 1, 0, none⟩ (.int .i64 r)).setCell ⟨w.heap.size + 1 + 1, 1, none⟩ (.int .i64 c)).setCell ⟨w.heap.size + 1 + 1, 2, none⟩ (.slice A3 zs.length c3)) B2 A2 ks from T2.out.keep (fun p hp => by rw [World.cell?_setCell_other _ _ _ _ (fun e => by rw [← e] at hp; exact absurd (show w.heap.size + 1 + 1 < B2 from hp) (by omega)), World.cell?_setCell_other _ _ _ _ (fun e => by rw [← e] at hp; exact absurd (show w.heap.size + 1 + 1 < B2 from hp) (by omega)), World.cell?_setCell_other _ _ _ _ (fun e => by rw [← e] at hp; exact absurd (show w.heap.size + 1 + 1 < B2 from hp) (by omega))]))
  go_wp2_with fail
  clear a0 a1 a2 a3 a4 a5 alt d0 d1 d2 d3 d4 d5 fd0 fd1 fd2 fd3 fd4 fd5 dlt P0 P1 P2 T2 HB2 HR2
  obtain ⟨V, hV⟩ : ∃ V, (((w2.setCell ⟨w.heap.size + 1 + 1, 0, none⟩ (.int .i64 r)).setCell ⟨w.heap.size + 1 + 1, 1, none⟩ (.int .i64 c)).setCell ⟨w.heap.size + 1 + 1, 2, none⟩ (.slice A3 zs.length c3)) = V := ⟨_, rfl⟩
  rw [hV] at M0 M1 M2 MR MB MS MT ⊢
  clear hV
  refine (toM_any r2 c2 A2 cap2 _ B2 ks V MT.out (by omega) rfl hn2).mono ?_
  rintro e w3 ⟨v3, rfl, hr3, hb3⟩
  obtain ⟨A4, c4, rfl, _, _, _⟩ := hr3.form
  have hsz3 := hb3.size
  have P1 := Lib.hid (M1.out.below hb3 (by omega))
  have P2 := Lib.hid (M2.out.below hb3 (by omega))
  have HR := Lib.hid (MR.out.below hb3 (by omega))
  have HB3 := Lib.hid (MB.out.trans (hb3.mono (by omega)))
  have HR3 := Lib.hid hr3
  clear hr3 hb3 M0 M1 M2 MR MB MT
  obtain ⟨b0, b1, b2, b3, b4, b5, fb0, fb1, fb2, fb3, fb4, fb5, blt⟩ := P1.out
  obtain ⟨d0, d1, d2, d3, d4, d5, fd0, fd1, fd2, fd3, fd4, fd5, dlt⟩ := P2.out
  have N1 := Lib.hid (((((((((P1.out.far (a := ⟨w.heap.size + 1 + 1, 3, none⟩) (show w.heap.size + 1 ≠ w.heap.size + 1 + 1 by omega) (.int .i64 r2)).far (a := ⟨w.heap.size + 1 + 1, 4, none⟩) (show w.heap.size + 1 ≠ w.heap.size + 1 + 1 by omega) (.int .i64 c2)).far (a := ⟨w.heap.size + 1 + 1, 5, none⟩) (show w.heap.size + 1 ≠ w.heap.size + 1 + 1 by omega) (.slice A4 ks.length c4)).set0 (.int .i64 r)).set1 (.int .i64 c)).set2 (.slice A3 zs.length c3)).set3 (.int .i64 r2)).set4 (.int .i64 c2)).set5 (.slice A4 ks.length c4))
  have NR := Lib.hid (((((((((HR.out.grown (set_grown _ (w.heap.size + 1 + 1) 3 (.int .i64 r2)) (fun g e => by cases e; left; omega)).grown (set_grown _ (w.heap.size + 1 + 1) 4 (.int .i64 c2)) (fun g e => by cases e; left; omega)).grown (set_grown _ (w.heap.size + 1 + 1) 5 (.slice A4 ks.length c4)) (fun g e => by cases e; left; omega)).grown (set_grown _ (w.heap.size + 1) 0 (.int .i64 r)) (fun g e => by cases e; left; omega)).grown (set_grown _ (w.heap.size + 1) 1 (.int .i64 c)) (fun g e => by cases e; left; omega)).grown (set_grown _ (w.heap.size + 1) 2 (.slice A3 zs.length c3)) (fun g e => by cases e; left; omega)).grown (set_grown _ (w.heap.size + 1) 3 (.int .i64 r2)) (fun g e => by cases e; left; omega)).grown (set_grown _ (w.heap.size + 1) 4 (.int .i64 c2)) (fun g e => by cases e; left; omega)).grown (set_grown _ (w.heap.size + 1) 5 (.slice A4 ks.length c4)) (fun g e => by cases e; left; omega))
  have NR3 := Lib.hid (((((((((HR3.out.grown (set_grown _ (w.heap.size + 1 + 1) 3 (.int .i64 r2)) (fun g e => by cases e; left; omega)).grown (set_grown _ (w.heap.size + 1 + 1) 4 (.int .i64 c2)) (fun g e => by cases e; left; omega)).grown (set_grown _ (w.heap.size + 1 + 1) 5 (.slice A4 ks.length c4)) (fun g e => by cases e; left; omega)).grown (set_grown _ (w.heap.size + 1) 0 (.int .i64 r)) (fun g e => by cases e; left; omega)).grown (set_grown _ (w.heap.size + 1) 1 (.int .i64 c)) (fun g e => by cases e; left; omega)).grown (set_grown _ (w.heap.size + 1) 2 (.slice A3 zs.length c3)) (fun g e => by cases e; left; omega)).grown (set_grown _ (w.heap.size + 1) 3 (.int .i64 r2)) (fun g e => by cases e; left; omega)).grown (set_grown _ (w.heap.size + 1) 4 (.int .i64 c2)) (fun g e => by cases e; left; omega)).grown (set_grown _ (w.heap.size + 1) 5 (.slice A4 ks.length c4)) (fun g e => by cases e; left; omega))
  have NB := Lib.hid (((((((((HB3.out.setCell (p := ⟨w.heap.size + 1 + 1, 3, none⟩) (show w.heap.size ≤ w.heap.size + 1 + 1 by omega) (.int .i64 r2)).setCell (p := ⟨w.heap.size + 1 + 1, 4, none⟩) (show w.heap.size ≤ w.heap.size + 1 + 1 by omega) (.int .i64 c2)).setCell (p := ⟨w.heap.size + 1 + 1, 5, none⟩) (show w.heap.size ≤ w.heap.size + 1 + 1 by omega) (.slice A4 ks.length c4)).setCell (p := ⟨w.heap.size + 1, 0, none⟩) (show w.heap.size ≤ w.heap.size + 1 by omega) (.int .i64 r)).setCell (p := ⟨w.heap.size + 1, 1, none⟩) (show w.heap.size ≤ w.heap.size + 1 by omega) (.int .i64 c)).setCell (p := ⟨w.heap.size + 1, 2, none⟩) (show w.heap.size ≤ w.heap.size + 1 by omega) (.slice A3 zs.length c3)).setCell (p := ⟨w.heap.size + 1, 3, none⟩) (show w.heap.size ≤ w.heap.size + 1 by omega) (.int .i64 r2)).setCell (p := ⟨w.heap.size + 1, 4, none⟩) (show w.heap.size ≤ w.heap.size + 1 by omega) (.int .i64 c2)).setCell (p := ⟨w.heap.size + 1, 5, none⟩) (show w.heap.size ≤ w.heap.size + 1 by omega) (.slice A4 ks.length c4))
  have NS : (((((((((w3.setCell ⟨w.heap.size + 1 + 1, 3, none⟩ (.int .i64 r2)).setCell ⟨w.heap.size + 1 + 1, 4, none⟩ (.int .i64 c2)).setCell ⟨w.heap.size + 1 + 1, 5, none⟩ (.slice A4 ks.length c4)).setCell ⟨w.heap.size + 1, 0, none⟩ (.int .i64 r)).setCell ⟨w.heap.size + 1, 1, none⟩ (.int .i64 c)).setCell ⟨w.heap.size + 1, 2, none⟩ (.slice A3 zs.length c3)).setCell ⟨w.heap.size + 1, 3, none⟩ (.int .i64 r2)).setCell ⟨w.heap.size + 1, 4, none⟩ (.int .i64 c2)).setCell ⟨w.heap.size + 1, 5, none⟩ (.slice A4 ks.length c4)).heap.size = w3.heap.size := by simp
  go_wp2
  obtain ⟨Z, hZ⟩ : ∃ Z, (((((((((w3.setCell ⟨w.heap.size + 1 + 1, 3, none⟩ (.int .i64 r2)).setCell ⟨w.heap.size + 1 + 1, 4, none⟩ (.int .i64 c2)).setCell ⟨w.heap.size + 1 + 1, 5, none⟩ (.slice A4 ks.length c4)).setCell ⟨w.heap.size + 1, 0, none⟩ (.int .i64 r)).setCell ⟨w.heap.size + 1, 1, none⟩ (.int .i64 c)).setCell ⟨w.heap.size + 1, 2, none⟩ (.slice A3 zs.length c3)).setCell ⟨w.heap.size + 1, 3, none⟩ (.int .i64 r2)).setCell ⟨w.heap.size + 1, 4, none⟩ (.int .i64 c2)).setCell ⟨w.heap.size + 1, 5, none⟩ (.slice A4 ks.length c4)) = Z := ⟨_, rfl⟩
  rw [hZ] at N1 NR NR3 NB NS ⊢
  obtain ⟨z0, z1, z2, z3, z4, z5, _, _, _, _, _, _, _⟩ := N1.out
  refine bodyPost_ret (v := smV r c (.slice A3 zs.length c3) r2 c2 (.slice A4 ks.length c4)) (by simp [results, Try.results28, go_sem, z0, z1, z2, z3, z4, z5]) rfl ?_
  exact ⟨_, _, rfl, ⟨w2.heap.size, by omega, by omega, NR.out.wider (by omega) (Nat.le_refl _), NR3.out.wider (by omega) (by omega)⟩, NB.out⟩
set_option maxHeartbeats 1600000 in
theorem ownS_any (r c : Int) (A : Option Addr) (cap n B : Nat) (zs : List Int) (r2 c2 : Int) (A2 : Option Addr) (cap2 n2 B2 : Nat) (ks : List Int) (w : World) (hs : Sl w B A zs) (hB : B ≤ w.heap.size) (e : n = zs.length) (hn : n ≤ 1100000) (hs2 : Sl w B2 A2 ks) (hB2 : B2 ≤ w.heap.size) (e2 : n2 = ks.length) (hn2 : n2 ≤ 1100000) :
    Calls Try.prog 53 #[smV r c (.slice A n cap) r2 c2 (.slice A2 n2 cap2)] w fun e w' => ∃ s s2, e = .returned (smV r c s r2 c2 s2) ∧ RowS w' w.heap.size w'.heap.size s s2 zs ks ∧ Below w.heap.size w w' := by
  subst e
  subst e2
  have q0 := ((Cell6.new w (.int .i64 r) (.int .i64 c) (.slice A zs.length cap) (.int .i64 r2) (.int .i64 c2) (.slice A2 ks.length cap2) 47).alloc (.cells #[.int .i64 0, .int .i64 0, .slice none 0 0, .int .i64 0, .int .i64 0, .slice none 0 0] 47)).alloc (.cells #[.int .i64 r, .int .i64 c, .slice A zs.length cap, .int .i64 r2, .int .i64 c2, .slice A2 ks.length cap2] 47)
  have q1 := (Cell6.new (w.alloc (.cells #[.int .i64 r, .int .i64 c, .slice A zs.length cap, .int .i64 r2, .int .i64 c2, .slice A2 ks.length cap2] 47)) (.int .i64 0) (.int .i64 0) (.slice none 0 0) (.int .i64 0) (.int .i64 0) (.slice none 0 0) 47).alloc (.cells #[.int .i64 r, .int .i64 c, .slice A zs.length cap, .int .i64 r2, .int .i64 c2, .slice A2 ks.length cap2] 47)
  have q2 := Cell6.new ((w.alloc (.cells #[.int .i64 r, .int .i64 c, .slice A zs.length cap, .int .i64 r2, .int .i64 c2, .slice A2 ks.length cap2] 47)).alloc (.cells #[.int .i64 0, .int .i64 0, .slice none 0 0, .int .i64 0, .int .i64 0, .slice none 0 0] 47)) (.int .i64 r) (.int .i64 c) (.slice A zs.length cap) (.int .i64 r2) (.int .i64 c2) (.slice A2 ks.length cap2) 47
  have hb : Below w.heap.size w (((w.alloc (.cells #[.int .i64 r, .int .i64 c, .slice A zs.length cap, .int .i64 r2, .int .i64 c2, .slice A2 ks.length cap2] 47)).alloc (.cells #[.int .i64 0, .int .i64 0, .slice none 0 0, .int .i64 0, .int .i64 0, .slice none 0 0] 47)).alloc (.cells #[.int .i64 r, .int .i64 c, .slice A zs.length cap, .int .i64 r2, .int .i64 c2, .slice A2 ks.length cap2] 47)) := (((Below.refl _ _).alloc (Nat.le_refl _) _).alloc (by simp) _).alloc (by simp; omega) _
  have hsz : (((w.alloc (.cells #[.int .i64 r, .int .i64 c, .slice A zs.length cap, .int .i64 r2, .int .i64 c2, .slice A2 ks.length cap2] 47)).alloc (.cells #[.int .i64 0, .int .i64 0, .slice none 0 0, .int .i64 0, .int .i64 0, .slice none 0 0] 47)).alloc (.cells #[.int .i64 r, .int .i64 c, .slice A zs.length cap, .int .i64 r2, .int .i64 c2, .slice A2 ks.length cap2] 47)).heap.size = w.heap.size + 3 := by simp
  simp only [World.size_alloc] at q1 q2
  obtain ⟨W, hW⟩ : ∃ W, ((w.alloc (.cells #[.int .i64 r, .int .i64 c, .slice A zs.length cap, .int .i64 r2, .int .i64 c2, .slice A2 ks.length cap2] 47)).alloc (.cells #[.int .i64 0, .int .i64 0, .slice none 0 0, .int .i64 0, .int .i64 0, .slice none 0 0] 47)).alloc (.cells #[.int .i64 r, .int .i64 c, .slice A zs.length cap, .int .i64 r2, .int .i64 c2, .slice A2 ks.length cap2] 47) = W := ⟨_, rfl⟩
  rw [hW] at q0 q1 q2 hb hsz
  have S1 := Lib.hid (hs.below hb hB)
  have S2 := Lib.hid (hs2.below hb hB2)
  have HB := Lib.hid hb
  have Q0 := Lib.hid q0
  have Q1 := Lib.hid q1
  have Q2 := Lib.hid q2
  clear hs hs2 hb
  obtain ⟨a0, a1, a2, a3, a4, a5, _, _, _, _, _, _, alt⟩ := q0
  obtain ⟨b0, b1, b2, b3, b4, b5, fb0, fb1, fb2, fb3, fb4, fb5, blt⟩ := q1
  obtain ⟨d0, d1, d2, d3, d4, d5, fd0, fd1, fd2, fd3, fd4, fd5, dlt⟩ := q2
  go_enter Try.func53, Try.ntmps53
  go_wp2_with fail
  refine (ownM_any r c A cap _ B zs W S1.out (by omega) rfl hn).mono ?_
  rintro e w2 ⟨v2, rfl, hr2, hb2⟩
  obtain ⟨A3, c3, rfl, _, _, _⟩ := hr2.form
  have hsz2 := hb2.size
  have P0 := Lib.hid (Q0.out.below hb2 (by omega))
  have P1 := Lib.hid (Q1.out.below hb2 (by omega))
  have P2 := Lib.hid (Q2.out.below hb2 (by omega))
  have T2 := Lib.hid (S2.out.below hb2 (by omega))
  have HB2 := Lib.hid (HB.out.trans (hb2.mono (by omega)))
  have HR2 := Lib.hid hr2
  clear hr2 hb2 a0 a1 a2 a3 a4 a5 alt b0 b1 b2 b3 b4 b5 fb0 fb1 fb2 fb3 fb4 fb5 blt d0 d1 d2 d3 d4 d5 fd0 fd1 fd2 fd3 fd4 fd5 dlt Q0 Q1 Q2 S1 S2 HB
  obtain ⟨a0, a1, a2, a3, a4, a5, _, _, _, _, _, _, alt⟩ := P0.out
  obtain ⟨d0, d1, d2, d3, d4, d5, fd0, fd1, fd2, fd3, fd4, fd5, dlt⟩ := P2.out
  have M0 := Lib.hid (((P0.out.far (a := ⟨w.heap.size + 1 + 1, 0, none⟩) (show w.heap.size ≠ w.heap.size + 1 + 1 by omega) (.int .i64 r)).far (a := ⟨w.heap.size + 1 + 1, 1, none⟩) (show w.heap.size ≠ w.heap.size + 1 + 1 by omega) (.int .i64 c)).far (a := ⟨w.heap.size + 1 + 1, 2, none⟩) (show w.heap.size ≠ w.heap.size + 1 + 1 by omega) (.slice A3 zs.length c3))
  have M1 := Lib.hid (((P1.out.far (a := ⟨w.heap.size + 1 + 1, 0, none⟩) (show w.heap.size + 1 ≠ w.heap.size + 1 + 1 by omega) (.int .i64 r)).far (a := ⟨w.heap.size + 1 + 1, 1, none⟩) (show w.heap.size + 1 ≠ w.heap.size + 1 + 1 by omega) (.int .i64 c)).far (a := ⟨w.heap.size + 1 + 1, 2, none⟩) (show w.heap.size + 1 ≠ w.heap.size + 1 + 1 by omega) (.slice A3 zs.length c3))
  have M2 := Lib.hid (((P2.out.set0 (.int .i64 r)).set1 (.int .i64 c)).set2 (.slice A3 zs.length c3))
  have MR := Lib.hid (((HR2.out.grown (set_grown _ (w.heap.size + 1 + 1) 0 (.int .i64 r)) (fun g e => by cases e; left; omega)).grown (set_grown _ (w.heap.size + 1 + 1) 1 (.int .i64 c)) (fun g e => by cases e; left; omega)).grown (set_grown _ (w.heap.size + 1 + 1) 2 (.slice A3 zs.length c3)) (fun g e => by cases e; left; omega))
  have MB := Lib.hid (((HB2.out.setCell (p := ⟨w.heap.size + 1 + 1, 0, none⟩) (show w.heap.size ≤ w.heap.size + 1 + 1 by omega) (.int .i64 r)).setCell (p := ⟨w.heap.size + 1 + 1, 1, none⟩) (show w.heap.size ≤ w.heap.size + 1 + 1 by omega) (.int .i64 c)).setCell (p := ⟨w.heap.size + 1 + 1, 2, none⟩) (show w.heap.size ≤ w.heap.size + 1 + 1 by omega) (.slice A3 zs.length c3))
  have MS : (((w2.setCell ⟨w.heap.size + 1 + 1, 0, none⟩ (.int .i64 r)).setCell ⟨w.heap.size + 1 + 1, 1, none⟩ (.int .i64 c)).setCell ⟨w.heap.size + 1 + 1, 2, none⟩ (.slice A3 zs.length c3)).heap.size = w2.heap.size := by simp
  have MT := Lib.hid (show Sl (((w2.setCell ⟨w.heap.size + 1 + 1, 0, none⟩ (.int .i64 r)).setCell ⟨w.heap.size + 1 + 1, 1, none⟩ (.int .i64 c)).setCell ⟨w.heap.size + 1 + 1, 2, none⟩ (.slice A3 zs.length c3)) B2 A2 ks from T2.out.keep (fun p hp => by rw [World.cell?_setCell_other _ _ _ _ (fun e => by rw [← e] at hp; exact absurd (show w.heap.size + 1 + 1 < B2 from hp) (by omega)), World.cell?_setCell_other _ _ _ _ (fun e => by rw [← e] at hp; exact absurd (show w.heap.size + 1 + 1 < B2 from hp) (by omega)), World.cell?_setCell_other _ _ _ _ (fun e => by rw [← e] at hp; exact absurd (show w.heap.size + 1 + 1 < B2 from hp) (by omega))]))
  go_wp2_with fail
  clear a0 a1 a2 a3 a4 a5 alt d0 d1 d2 d3 d4 d5 fd0 fd1 fd2 fd3 fd4 fd5 dlt P0 P1 P2 T2 HB2 HR2
  obtain ⟨V, hV⟩ : ∃ V, (((w2.setCell ⟨w.heap.size + 1 + 1, 0, none⟩ (.int .i64 r)).setCell ⟨w.heap.size + 1 + 1, 1, none⟩ (.int .i64 c)).setCell ⟨w.heap.size + 1 + 1, 2, none⟩ (.slice A3 zs.length c3)) = V := ⟨_, rfl⟩
  rw [hV] at M0 M1 M2 MR MB MS MT ⊢
  clear hV
  refine (ownM_any r2 c2 A2 cap2 _ B2 ks V MT.out (by omega) rfl hn2).mono ?_
  rintro e w3 ⟨v3, rfl, hr3, hb3⟩
  obtain ⟨A4, c4, rfl, _, _, _⟩ := hr3.form
  have hsz3 := hb3.size
  have P1 := Lib.hid (M1.out.below hb3 (by omega))
  have P2 := Lib.hid (M2.out.below hb3 (by omega))
  have HR := Lib.hid (MR.out.below hb3 (by omega))
  have HB3 := Lib.hid (MB.out.trans (hb3.mono (by omega)))
  have HR3 := Lib.hid hr3
  clear hr3 hb3 M0 M1 M2 MR MB MT
  obtain ⟨b0, b1, b2, b3, b4, b5, fb0, fb1, fb2, fb3, fb4, fb5, blt⟩ := P1.out
  obtain ⟨d0, d1, d2, d3, d4, d5, fd0, fd1, fd2, fd3, fd4, fd5, dlt⟩ := P2.out
  have N1 := Lib.hid (((((((((P1.out.far (a := ⟨w.heap.size + 1 + 1, 3, none⟩) (show w.heap.size + 1 ≠ w.heap.size + 1 + 1 by omega) (.int .i64 r2)).far (a := ⟨w.heap.size + 1 + 1, 4, none⟩) (show w.heap.size + 1 ≠ w.heap.size + 1 + 1 by omega) (.int .i64 c2)).far (a := ⟨w.heap.size + 1 + 1, 5, none⟩) (show w.heap.size + 1 ≠ w.heap.size + 1 + 1 by omega) (.slice A4 ks.length c4)).set0 (.int .i64 r)).set1 (.int .i64 c)).set2 (.slice A3 zs.length c3)).set3 (.int .i64 r2)).set4 (.int .i64 c2)).set5 (.slice A4 ks.length c4))
  have NR := Lib.hid (((((((((HR.out.grown (set_grown _ (w.heap.size + 1 + 1) 3 (.int .i64 r2)) (fun g e => by cases e; left; omega)).grown (set_grown _ (w.heap.size + 1 + 1) 4 (.int .i64 c2)) (fun g e => by cases e; left; omega)).grown (set_grown _ (w.heap.size + 1 + 1) 5 (.slice A4 ks.length c4)) (fun g e => by cases e; left; omega)).grown (set_grown _ (w.heap.size + 1) 0 (.int .i64 r)) (fun g e => by cases e; left; omega)).grown (set_grown _ (w.heap.size + 1) 1 (.int .i64 c)) (fun g e => by cases e; left; omega)).grown (set_grown _ (w.heap.size + 1) 2 (.slice A3 zs.length c3)) (fun g e => by cases e; left; omega)).grown (set_grown _ (w.heap.size + 1) 3 (.int .i64 r2)) (fun g e => by cases e; left; omega)).grown (set_grown _ (w.heap.size + 1) 4 (.int .i64 c2)) (fun g e => by cases e; left; omega)).grown (set_grown _ (w.heap.size + 1) 5 (.slice A4 ks.length c4)) (fun g e => by cases e; left; omega))
  have NR3 := Lib.hid (((((((((HR3.out.grown (set_grown _ (w.heap.size + 1 + 1) 3 (.int .i64 r2)) (fun g e => by cases e; left; omega)).grown (set_grown _ (w.heap.size + 1 + 1) 4 (.int .i64 c2)) (fun g e => by cases e; left; omega)).grown (set_grown _ (w.heap.size + 1 + 1) 5 (.slice A4 ks.length c4)) (fun g e => by cases e; left; omega)).grown (set_grown _ (w.heap.size + 1) 0 (.int .i64 r)) (fun g e => by cases e; left; omega)).grown (set_grown _ (w.heap.size + 1) 1 (.int .i64 c)) (fun g e => by cases e; left; omega)).grown (set_grown _ (w.heap.size + 1) 2 (.slice A3 zs.length c3)) (fun g e => by cases e; left; omega)).grown (set_grown _ (w.heap.size + 1) 3 (.int .i64 r2)) (fun g e => by cases e; left; omega)).grown (set_grown _ (w.heap.size + 1) 4 (.int .i64 c2)) (fun g e => by cases e; left; omega)).grown (set_grown _ (w.heap.size + 1) 5 (.slice A4 ks.length c4)) (fun g e => by cases e; left; omega))
  have NB := Lib.hid (((((((((HB3.out.setCell (p := ⟨w.heap.size + 1 + 1, 3, none⟩) (show w.heap.size ≤ w.heap.size + 1 + 1 by omega) (.int .i64 r2)).setCell (p := ⟨w.heap.size + 1 + 1, 4, none⟩) (show w.heap.size ≤ w.heap.size + 1 + 1 by omega) (.int .i64 c2)).setCell (p := ⟨w.heap.size + 1 + 1, 5, none⟩) (show w.heap.size ≤ w.heap.size + 1 + 1 by omega) (.slice A4 ks.length c4)).setCell (p := ⟨w.heap.size + 1, 0, none⟩) (show w.heap.size ≤ w.heap.size + 1 by omega) (.int .i64 r)).setCell (p := ⟨w.heap.size + 1, 1, none⟩) (show w.heap.size ≤ w.heap.size + 1 by omega) (.int .i64 c)).setCell (p := ⟨w.heap.size + 1, 2, none⟩) (show w.heap.size ≤ w.heap.size + 1 by omega) (.slice A3 zs.length c3)).setCell (p := ⟨w.heap.size + 1, 3, none⟩) (show w.heap.size ≤ w.heap.size + 1 by omega) (.int .i64 r2)).setCell (p := ⟨w.heap.size + 1, 4, none⟩) (show w.heap.size ≤ w.heap.size + 1 by omega) (.int .i64 c2)).setCell (p := ⟨w.heap.size + 1, 5, none⟩) (show w.heap.size ≤ w.heap.size + 1 by omega) (.slice A4 ks.length c4))
  have NS : (((((((((w3.setCell ⟨w.heap.size + 1 + 1, 3, none⟩ (.int .i64 r2)).setCell ⟨w.heap.size + 1 + 1, 4, none⟩ (.int .i64 c2)).setCell ⟨w.heap.size + 1 + 1, 5, none⟩ (.slice A4 ks.length c4)).setCell ⟨w.heap.size + 1, 0, none⟩ (.int .i64 r)).setCell ⟨w.heap.size + 1, 1, none⟩ (.int .i64 c)).setCell ⟨w.heap.size + 1, 2, none⟩ (.slice A3 zs.length c3)).setCell ⟨w.heap.size + 1, 3, none⟩ (.int .i64 r2)).setCell ⟨w.heap.size + 1, 4, none⟩ (.int .i64 c2)).setCell ⟨w.heap.size + 1, 5, none⟩ (.slice A4 ks.length c4)).heap.size = w3.heap.size := by simp
  go_wp2
  obtain ⟨Z, hZ⟩ : ∃ Z, (((((((((w3.setCell ⟨w.heap.size + 1 + 1, 3, none⟩ (.int .i64 r2)).setCell ⟨w.heap.size + 1 + 1, 4, none⟩ (.int .i64 c2)).setCell ⟨w.heap.size + 1 + 1, 5, none⟩ (.slice A4 ks.length c4)).setCell ⟨w.heap.size + 1, 0, none⟩ (.int .i64 r)).setCell ⟨w.heap.size + 1, 1, none⟩ (.int .i64 c)).setCell ⟨w.heap.size + 1, 2, none⟩ (.slice A3 zs.length c3)).setCell ⟨w.heap.size + 1, 3, none⟩ (.int .i64 r2)).setCell ⟨w.heap.size + 1, 4, none⟩ (.int .i64 c2)).setCell ⟨w.heap.size + 1, 5, none⟩ (.slice A4 ks.length c4)) = Z := ⟨_, rfl⟩
  rw [hZ] at N1 NR NR3 NB NS ⊢
  obtain ⟨z0, z1, z2, z3, z4, z5, _, _, _, _, _, _, _⟩ := N1.out
  refine bodyPost_ret (v := smV r c (.slice A3 zs.length c3) r2 c2 (.slice A4 ks.length c4)) (by simp [results, Try.results53, go_sem, z0, z1, z2, z3, z4, z5]) rfl ?_
  exact ⟨_, _, rfl, ⟨w2.heap.size, by omega, by omega, NR.out.wider (by omega) (Nat.le_refl _), NR3.out.wider (by omega) (by omega)⟩, NB.out⟩
end Go.Proofs.Ytilmglockldddaa
