/- Contracts: new matrices, copies of matrices. -/
import Derived.Test.YtilmglockldddaaMatV
namespace Go.Proofs.Ytilmglockldddaa
open Go.RowKit

theorem made_rowM (w : World) (n : Nat) (hn : n ≤ 2000000) : Row (w.alloc (.cells (madeCells #[Value.int .i64 0] n) 3)) w.heap.size (w.heap.size + 1) (.slice (some ⟨w.heap.size, 0, none⟩) n n) (List.replicate n 0) := by
  refine ⟨?_, fun g hg => by simp [Value.ownBlock] at hg; omega⟩
  rw [List.length_replicate, ← madeCells_ints]
  exact World.ownsRow_lit w _ _ (Nat.le_refl _) (by simp only [maxLen]; omega) (by simp [madeCells])

theorem emptyM_any (r c : Int) (n : Nat) (w : World) (hn : (n : Int) = r * c) (h0 : n ≤ 2000000) :
    Calls Try.prog 46 #[.int .i64 r, .int .i64 c] w fun e w' => ∃ s, e = .returned (matV r c s) ∧ Row w' w.heap.size w'.heap.size s (List.replicate n 0) ∧ Below w.heap.size w w' := by
  have hmk := run_make_row' (P := Try.prog) 22 3 (.int .i64 0) 8 Try.underlying22 info_int rfl .i64 .i64 n (by omega) (by omega)
  have hrc : r * c = (n : Int) := hn.symm
  clear hn
  go_enter Try.func46, Try.ntmps46
  go_wp2
  refine bodyPost_ret (v := matV r c (.slice (some ⟨w.heap.size + 1, 0, none⟩) n n)) (by simp [results, Try.results46, go_sem]) rfl ?_
  have hr := made_rowM (w.alloc (.cells #[.int .i64 r, .int .i64 c, .slice (some ⟨w.heap.size + 1, 0, none⟩) n n] 33)) n h0
  simp only [World.size_alloc] at hr
  exact ⟨_, rfl, hr.wider (by omega) (by simp), ((Below.refl _ _).alloc (Nat.le_refl _) _).alloc (by simp) _⟩

theorem lit0M (w : World) : Row (w.alloc (.cells #[] 3)) w.heap.size (w.heap.size + 1) (.slice (some ⟨w.heap.size, 0, none⟩) 0 0) [] := ⟨World.ownsRow_lit w #[] 0 (Nat.le_refl _) (by simp [maxLen]) rfl, fun g hg => by simp [Value.ownBlock] at hg; omega⟩
theorem frozen_grown {w w' : World} {row : Option Nat} (hg : w.grownBy w' row) {a : Addr} (hlt : a.block < w.heap.size) (hne : some a.block ≠ row) : w'.frozen? a = w.frozen? a := World.frozen?_of_block (hg.block _ hlt hne)

theorem frozen_new (w : World) (c : Array Value) (t : TypeId) (j : Nat) : (w.alloc (.cells c t)).frozen? ⟨w.heap.size, j, none⟩ = false := by
  simp
/-- Block b holds a struct of three one-cell fields, which may be written. -/
structure Cell3 (w : World) (b : Nat) (x y z : Value) : Prop where
  c0 : w.cell? ⟨b, 0, none⟩ = some x
  c1 : w.cell? ⟨b, 1, none⟩ = some y
  c2 : w.cell? ⟨b, 2, none⟩ = some z
  f0 : w.frozen? ⟨b, 0, none⟩ = false
  f1 : w.frozen? ⟨b, 1, none⟩ = false
  f2 : w.frozen? ⟨b, 2, none⟩ = false
  lt : b < w.heap.size
theorem Cell3.new (w : World) (x y z : Value) (t : TypeId) : Cell3 (w.alloc (.cells #[x, y, z] t)) w.heap.size x y z :=
  ⟨World.cell?_alloc_at _ _ _ _ rfl, World.cell?_alloc_at _ _ _ _ rfl, World.cell?_alloc_at _ _ _ _ rfl, frozen_new w _ t 0, frozen_new w _ t 1, frozen_new w _ t 2, by simp⟩
theorem Cell3.grown {w w' : World} {b : Nat} {x y z : Value} {row : Option Nat} (h : Cell3 w b x y z) (hg : w.grownBy w' row) (hne : some b ≠ row) : Cell3 w' b x y z :=
  ⟨hg.cell h.c0 hne, hg.cell h.c1 hne, hg.cell h.c2 hne, (frozen_grown hg h.lt hne).trans h.f0, (frozen_grown hg h.lt hne).trans h.f1, (frozen_grown hg h.lt hne).trans h.f2, Nat.lt_of_lt_of_le h.lt hg.size⟩
theorem Cell3.below {w w' : World} {b B : Nat} {x y z : Value} (h : Cell3 w b x y z) (hb : Below B w w') (hB : b < B) : Cell3 w' b x y z :=
  ⟨(hb.cell (p := ⟨b, 0, none⟩) hB).trans h.c0, (hb.cell (p := ⟨b, 1, none⟩) hB).trans h.c1, (hb.cell (p := ⟨b, 2, none⟩) hB).trans h.c2, (World.frozen?_of_block (a := ⟨b, 0, none⟩) (hb.block _ hB)).trans h.f0, (World.frozen?_of_block (a := ⟨b, 1, none⟩) (hb.block _ hB)).trans h.f1, (World.frozen?_of_block (a := ⟨b, 2, none⟩) (hb.block _ hB)).trans h.f2, Nat.lt_of_lt_of_le h.lt hb.size⟩
theorem Cell3.alloc {w : World} {b : Nat} {x y z : Value} (h : Cell3 w b x y z) (o : Obj) : Cell3 (w.alloc o) b x y z := h.grown (World.grownBy_alloc w o none) (by simp)

theorem Cell3.set0 {w : World} {b : Nat} {x y z : Value} (h : Cell3 w b x y z) (u : Value) : Cell3 (w.setCell ⟨b, 0, none⟩ u) b u y z :=
  ⟨World.cell?_setCell_same _ _ _ h.c0, (World.cell?_setCell_other _ _ _ _ (by simp)).trans h.c1, (World.cell?_setCell_other _ _ _ _ (by simp)).trans h.c2, by simp [h.f0], by simp [h.f1], by simp [h.f2], by simpa using h.lt⟩
theorem Cell3.set1 {w : World} {b : Nat} {x y z : Value} (h : Cell3 w b x y z) (u : Value) : Cell3 (w.setCell ⟨b, 1, none⟩ u) b x u z :=
  ⟨(World.cell?_setCell_other _ _ _ _ (by simp)).trans h.c0, World.cell?_setCell_same _ _ _ h.c1, (World.cell?_setCell_other _ _ _ _ (by simp)).trans h.c2, by simp [h.f0], by simp [h.f1], by simp [h.f2], by simpa using h.lt⟩
theorem Cell3.set2 {w : World} {b : Nat} {x y z : Value} (h : Cell3 w b x y z) (u : Value) : Cell3 (w.setCell ⟨b, 2, none⟩ u) b x y u :=
  ⟨(World.cell?_setCell_other _ _ _ _ (by simp)).trans h.c0, (World.cell?_setCell_other _ _ _ _ (by simp)).trans h.c1, World.cell?_setCell_same _ _ _ h.c2, by simp [h.f0], by simp [h.f1], by simp [h.f2], by simpa using h.lt⟩
theorem Cell3.far {w : World} {b : Nat} {x y z : Value} (h : Cell3 w b x y z) {a : Addr} (hne : b ≠ a.block) (u : Value) : Cell3 (w.setCell a u) b x y z :=
  ⟨(World.cell?_setCell_other _ _ _ _ (by intro e; rw [e] at hne; exact hne rfl)).trans h.c0, (World.cell?_setCell_other _ _ _ _ (by intro e; rw [e] at hne; exact hne rfl)).trans h.c1, (World.cell?_setCell_other _ _ _ _ (by intro e; rw [e] at hne; exact hne rfl)).trans h.c2, by simp [h.f0], by simp [h.f1], by simp [h.f2], by simpa using h.lt⟩
theorem set_grown (w : World) (b o : Nat) (u : Value) : w.grownBy (w.setCell ⟨b, o, none⟩ u) (some b) :=
  ⟨rfl, rfl, rfl, by simp, fun k _ hk => heap_setCell_other w ⟨b, o, none⟩ k u (fun e => hk (by simp [e]))⟩
theorem nest_own (w : World) (r c : Int) (s : Value) :
    Cell3 ((((w.alloc (.cells #[.int .i64 r, .int .i64 c, s] 33)).alloc (.cells #[.int .i64 0, .int .i64 0, .slice none 0 0] 33)).alloc (.cells #[.int .i64 r, .int .i64 c, s] 33)).alloc (.cells #[] 3)) w.heap.size (.int .i64 r) (.int .i64 c) s ∧
    Cell3 ((((w.alloc (.cells #[.int .i64 r, .int .i64 c, s] 33)).alloc (.cells #[.int .i64 0, .int .i64 0, .slice none 0 0] 33)).alloc (.cells #[.int .i64 r, .int .i64 c, s] 33)).alloc (.cells #[] 3)) (w.heap.size + 1) (.int .i64 0) (.int .i64 0) (.slice none 0 0) ∧
    Cell3 ((((w.alloc (.cells #[.int .i64 r, .int .i64 c, s] 33)).alloc (.cells #[.int .i64 0, .int .i64 0, .slice none 0 0] 33)).alloc (.cells #[.int .i64 r, .int .i64 c, s] 33)).alloc (.cells #[] 3)) (w.heap.size + 2) (.int .i64 r) (.int .i64 c) s ∧
    Row ((((w.alloc (.cells #[.int .i64 r, .int .i64 c, s] 33)).alloc (.cells #[.int .i64 0, .int .i64 0, .slice none 0 0] 33)).alloc (.cells #[.int .i64 r, .int .i64 c, s] 33)).alloc (.cells #[] 3)) (w.heap.size + 3) (w.heap.size + 4) (.slice (some ⟨w.heap.size + 3, 0, none⟩) 0 0) [] ∧
    Below w.heap.size w ((((w.alloc (.cells #[.int .i64 r, .int .i64 c, s] 33)).alloc (.cells #[.int .i64 0, .int .i64 0, .slice none 0 0] 33)).alloc (.cells #[.int .i64 r, .int .i64 c, s] 33)).alloc (.cells #[] 3)) ∧
    ((((w.alloc (.cells #[.int .i64 r, .int .i64 c, s] 33)).alloc (.cells #[.int .i64 0, .int .i64 0, .slice none 0 0] 33)).alloc (.cells #[.int .i64 r, .int .i64 c, s] 33)).alloc (.cells #[] 3)).heap.size = w.heap.size + 4 := by
  have a := Cell3.new w (.int .i64 r) (.int .i64 c) s 33
  have b := Cell3.new (w.alloc (.cells #[.int .i64 r, .int .i64 c, s] 33)) (.int .i64 0) (.int .i64 0) (.slice none 0 0) 33
  have c' := Cell3.new ((w.alloc (.cells #[.int .i64 r, .int .i64 c, s] 33)).alloc (.cells #[.int .i64 0, .int .i64 0, .slice none 0 0] 33)) (.int .i64 r) (.int .i64 c) s 33
  have d := lit0M (((w.alloc (.cells #[.int .i64 r, .int .i64 c, s] 33)).alloc (.cells #[.int .i64 0, .int .i64 0, .slice none 0 0] 33)).alloc (.cells #[.int .i64 r, .int .i64 c, s] 33))
  simp only [World.size_alloc] at b c' d
  exact ⟨((a.alloc _).alloc _).alloc _, (b.alloc _).alloc _, c'.alloc _, d, ((((Below.refl _ _).alloc (Nat.le_refl _) _).alloc (by simp) _).alloc (by simp; omega) _).alloc (by simp; omega) _, by simp⟩

set_option maxHeartbeats 800000 in
theorem ownM_any (r c : Int) (A : Option Addr) (cap n B : Nat) (zs : List Int) (w : World) (hs : Sl w B A zs) (hB : B ≤ w.heap.size) (e : n = zs.length) (hn : n ≤ 1100000) :
    Calls Try.prog 44 #[matV r c (.slice A n cap)] w fun e w' => ∃ s, e = .returned (matV r c s) ∧ Row w' w.heap.size w'.heap.size s zs ∧ Below w.heap.size w w' := by
  subst e
  obtain ⟨q0, q1, q2, ql, qb, qs⟩ := nest_own w r c (.slice A zs.length cap)
  obtain ⟨W, hW⟩ : ∃ W, (((w.alloc (.cells #[.int .i64 r, .int .i64 c, .slice A zs.length cap] 33)).alloc (.cells #[.int .i64 0, .int .i64 0, .slice none 0 0] 33)).alloc (.cells #[.int .i64 r, .int .i64 c, .slice A zs.length cap] 33)).alloc (.cells #[] 3) = W := ⟨_, rfl⟩
  rw [hW] at q0 q1 q2 ql qb qs
  obtain ⟨a0, a1, a2, _, _, _, _⟩ := q0
  have hsW := hs.below qb hB
  go_enter Try.func44, Try.ntmps44
  go_wp2_with (
    at_builtin
    go_loud (refine wpList_append_sl _ (by rfl) (.tmp 5) (.tmp 7) 22 rfl Try.underlying22 (w.heap.size + 3) _ 0 [] rfl ql.1 B A cap zs rfl hsW (by simp only [maxLen]; omega) (by omega) (by omega) ?_)
    intro v2 w2 hown2 hgrow2 hat2
    go_loud (
     simp only [Nat.zero_add, List.nil_append] at hown2
     have hr2 : Row w2 (w.heap.size + 3) w2.heap.size v2 zs := ⟨hown2, fun g hg => (hown2.lt g hg).2⟩
     obtain ⟨A2, c2, rfl, _, _, _⟩ := hr2.form
     have hg2 : W.grownBy w2 (some (w.heap.size + 3)) := hgrow2
     have p1 : Cell3 w2 (w.heap.size + 1) (.int .i64 0) (.int .i64 0) (.slice none 0 0) := q1.grown hg2 (by simp)
     have p2 : Cell3 w2 (w.heap.size + 1 + 1) (.int .i64 r) (.int .i64 c) (.slice A zs.length cap) := q2.grown hg2 (by simp)
     obtain ⟨b0, b1, b2, g0, g1, g2, blt⟩ := p1
     obtain ⟨d0, d1, d2, e0, e1, e2, dlt⟩ := p2
     have hbel := qb.grown hg2 (by omega) (fun g e => by cases e; omega)
     have HR2 := Lib.hid hr2
     have HBEL := Lib.hid hbel
     have hsz2 := hg2.size
     clear hown2 hgrow2 hat2 hr2 hbel hg2 q1 q2 ql qb))
  have P1 : Cell3 w2 (w.heap.size + 1) (.int .i64 0) (.int .i64 0) (.slice none 0 0) := ⟨b0, b1, b2, g0, g1, g2, blt⟩
  have P2 := (((P1.far (a := ⟨w.heap.size + 1 + 1, 2, none⟩) (by simp) (.slice A2 zs.length c2)).set0 (.int .i64 r)).set1 (.int .i64 c)).set2 (.slice A2 zs.length c2)
  have R1 := HR2.out.grown (set_grown w2 (w.heap.size + 1 + 1) 2 (.slice A2 zs.length c2)) (fun g e => by cases e; left; omega)
  have R2 := R1.grown (set_grown _ (w.heap.size + 1) 0 (.int .i64 r)) (fun g e => by cases e; left; omega)
  have R3 := R2.grown (set_grown _ (w.heap.size + 1) 1 (.int .i64 c)) (fun g e => by cases e; left; omega)
  have R4 := R3.grown (set_grown _ (w.heap.size + 1) 2 (.slice A2 zs.length c2)) (fun g e => by cases e; left; omega)
  have B4 := (((HBEL.out.setCell (p := ⟨w.heap.size + 1 + 1, 2, none⟩) (by simp; omega) (.slice A2 zs.length c2)).setCell (p := ⟨w.heap.size + 1, 0, none⟩) (by simp) (.int .i64 r)).setCell (p := ⟨w.heap.size + 1, 1, none⟩) (by simp) (.int .i64 c)).setCell (p := ⟨w.heap.size + 1, 2, none⟩) (by simp) (.slice A2 zs.length c2)
  have S4 : (((((w2.setCell ⟨w.heap.size + 1 + 1, 2, none⟩ (.slice A2 zs.length c2)).setCell ⟨w.heap.size + 1, 0, none⟩ (.int .i64 r)).setCell ⟨w.heap.size + 1, 1, none⟩ (.int .i64 c)).setCell ⟨w.heap.size + 1, 2, none⟩ (.slice A2 zs.length c2)).heap.size) = w2.heap.size := by simp
  obtain ⟨W4, hW4⟩ : ∃ W4, ((((w2.setCell ⟨w.heap.size + 1 + 1, 2, none⟩ (.slice A2 zs.length c2)).setCell ⟨w.heap.size + 1, 0, none⟩ (.int .i64 r)).setCell ⟨w.heap.size + 1, 1, none⟩ (.int .i64 c)).setCell ⟨w.heap.size + 1, 2, none⟩ (.slice A2 zs.length c2)) = W4 := ⟨_, rfl⟩
  rw [hW4] at P2 R4 B4 S4 ⊢
  obtain ⟨x0, x1, x2, _, _, _, _⟩ := P2
  refine bodyPost_ret (v := matV r c (.slice A2 zs.length c2)) (by simp [results, Try.results44, go_sem, x0, x1, x2]) rfl ?_
  exact ⟨_, rfl, R4.wider (by omega) (by omega), B4⟩
end Go.Proofs.Ytilmglockldddaa
