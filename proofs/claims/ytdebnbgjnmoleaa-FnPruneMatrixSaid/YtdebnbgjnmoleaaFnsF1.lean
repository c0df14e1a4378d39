/- Contracts: copies of matrices, signed numbers. -/
import Derived.Test.YtdebnbgjnmoleaaMatV4
import Derived.Deep.RegionHeld3
import Derived.BigRegion
import Derived.Lib.SliceRun
namespace Go.Proofs.Ytdebnbgjnmoleaa
open Go.RowKit

theorem Below.of_drew (w : World) {B : Nat} : Below B w w.drew := ⟨rfl, rfl, rfl, Nat.le_refl _, fun _ _ => rfl⟩
set_option maxHeartbeats 400000 in
theorem clone_any (A : Option Addr) (cap n B : Nat) (zs : List Int) (w : World) (hs : Sl w B A zs) (hB : B ≤ w.heap.size) (e : n = zs.length) (hn : n ≤ 1100000) :
    Calls Try.prog 71 #[.slice A n cap] w fun e w' => ∃ v, e = .returned v ∧ Row w' w.heap.size w'.heap.size v zs ∧ Below w.heap.size w w' := by
  subst e
  cases A with
  | none =>
    have hz : zs.length = 0 := by
      rcases Nat.eq_zero_or_pos zs.length with h0 | h0
      · exact h0
      · obtain ⟨b, off, h1, _⟩ := hs; have := (h1 h0).1; cases this
    have hnil : zs = [] := List.eq_nil_of_length_eq_zero hz
    subst hnil
    have hq : ∀ wx : World, (binOp .eql 22 (.slice none 0 cap) (.slice none 0 0)).run Try.prog wx = .ok (.bool true) wx := fun wx => Lib.run_eql_slice_nil (P := Try.prog) wx _ _ none 0 cap 0 0 Try.underlying22
    go_enter Try.func71, Try.ntmps71
    go_wp2
    go_ret
    exact ⟨_, rfl, Row.nil_ _ _ _, Below.refl _ _⟩
  | some ad =>
    have h0 := lit0M w
    have hb0 : Below w.heap.size w (w.alloc (.cells #[] 3)) := (Below.refl _ _).alloc (Nat.le_refl _) _
    have hs2 := hs.below hb0 hB
    have hq : ∀ wx : World, (binOp .eql 22 (.slice (some ad) zs.length cap) (.slice none 0 0)).run Try.prog wx = .ok (.bool false) wx := fun wx => Lib.run_eql_slice_nil (P := Try.prog) wx _ _ (some ad) zs.length cap 0 0 Try.underlying22
    go_enter Try.func71, Try.ntmps71
    go_wp2_with (
      at_builtin
      go_loud (refine wpList_append_sl _ (by rfl) (.tmp 5) (.tmp 6) 22 rfl Try.underlying22 w.heap.size (.slice (some ⟨w.heap.size, 0, none⟩) 0 0) 0 [] rfl h0.1 B (some ad) cap zs rfl hs2 (by simp only [maxLen]; omega) (by omega) (by simp) ?_)
      intro v2 w2 hown2 hgrow2 hat2
      go_loud (
       simp only [Nat.zero_add, List.nil_append] at hown2
       have hr2 : Row w2 w.heap.size w2.heap.size v2 zs := ⟨hown2, fun g hg => (hown2.lt g hg).2⟩
       have hb2 := hb0.grown hgrow2 (by simp) (fun g e => by simp [Value.ownBlock] at e; omega)
       have HR2 := Lib.hid hr2
       have HB2 := Lib.hid hb2
       clear hr2 hb2 hown2 hgrow2 hat2))
    go_ret
    exact ⟨_, rfl, HR2.out, HB2.out⟩

set_option maxHeartbeats 400000 in
theorem copyM_any (r c : Int) (A : Option Addr) (cap n B : Nat) (zs : List Int) (w : World) (hs : Sl w B A zs) (hB : B ≤ w.heap.size) (e : n = zs.length) (hn : n ≤ 1100000) :
    Calls Try.prog 66 #[matV r c (.slice A n cap)] w fun e w' => ∃ s, e = .returned (matV r c s) ∧ Row w' w.heap.size w'.heap.size s zs ∧ Below w.heap.size w w' := by
  subst e
  have q0 := (Cell3.new w (.int .i64 r) (.int .i64 c) (.slice A zs.length cap) 28).alloc (.cells #[.int .i64 0, .int .i64 0, .slice none 0 0] 28)
  have q1 := Cell3.new (w.alloc (.cells #[.int .i64 r, .int .i64 c, .slice A zs.length cap] 28)) (.int .i64 0) (.int .i64 0) (.slice none 0 0) 28
  simp only [World.size_alloc] at q1
  obtain ⟨W, hW⟩ : ∃ W, (w.alloc (.cells #[.int .i64 r, .int .i64 c, .slice A zs.length cap] 28)).alloc (.cells #[.int .i64 0, .int .i64 0, .slice none 0 0] 28) = W := ⟨_, rfl⟩
  have hb : Below w.heap.size w W := hW ▸ ((Below.refl _ _).alloc (Nat.le_refl _) _).alloc (by simp) _
  have hws : W.heap.size = w.heap.size + 2 := by rw [← hW]; simp
  rw [hW] at q0 q1
  have hsW := hs.below hb hB
  have HS := Lib.hid hsW
  have Q0 := Lib.hid q0
  have Q1 := Lib.hid q1
  obtain ⟨a0, a1, a2, f0, f1, f2, alt⟩ := q0
  obtain ⟨b0, b1, b2, g0, g1, g2, blt⟩ := q1
  clear hs hsW
  go_enter Try.func66, Try.ntmps66
  go_wp2
  go_region_held3 (fun w' => w'.cell? ⟨w.heap.size, 0, none⟩ = some (.int .i64 r) ∧ w'.cell? ⟨w.heap.size, 1, none⟩ = some (.int .i64 c) ∧ w'.cell? ⟨w.heap.size, 2, none⟩ = some (.slice A zs.length cap))
    (first | exact ⟨a0, a1, a2⟩ | exact ⟨x0, x1, x2⟩ | exact ⟨by simp [World.cell?_setCell_other, x0], by simp [World.cell?_setCell_other, x1], by simp [World.cell?_setCell_other, x2]⟩)
    (first | (go_simp; go_at_call 71; refine (clone_any A cap _ B zs W.drew (HS.out.keep (fun _ _ => rfl)) (show B ≤ W.heap.size by omega) rfl (by omega)).mono ?_; rintro e w2 ⟨v2, rfl, hr2, hb2⟩; have x0 := (hb2.cell (p := ⟨w.heap.size, 0, none⟩) (show _ < W.heap.size by omega)).trans a0; have x1 := (hb2.cell (p := ⟨w.heap.size, 1, none⟩) (show _ < W.heap.size by omega)).trans a1; have x2 := (hb2.cell (p := ⟨w.heap.size, 2, none⟩) (show _ < W.heap.size by omega)).trans a2; obtain ⟨A2, c2, rfl, _, _, _⟩ := hr2.form; obtain ⟨y0, y1, y2, k0, k1, k2, ylt⟩ := (show Cell3 w2 (w.heap.size + 1) (.int .i64 0) (.int .i64 0) (.slice none 0 0) from (show Cell3 W.drew (w.heap.size + 1) (.int .i64 0) (.int .i64 0) (.slice none 0 0) from Q1.out.below (B := W.heap.size) (Below.of_drew W) blt).below hb2 blt)))
  go_wp2
  have P2 := ((Cell3.set0 ⟨y0, y1, y2, k0, k1, k2, ylt⟩ (.int .i64 r)).set1 (.int .i64 c)).set2 (.slice A2 zs.length c2)
  have hsz2 := (show W.heap.size ≤ w2.heap.size from hb2.size)
  have hr2' : Row w2 W.heap.size w2.heap.size (.slice A2 zs.length c2) zs := hr2
  have R2 := hr2'.grown (set_grown _ (w.heap.size + 1) 0 (.int .i64 r)) (fun g e => by cases e; left; omega)
  have R3 := R2.grown (set_grown _ (w.heap.size + 1) 1 (.int .i64 c)) (fun g e => by cases e; left; omega)
  have R4 := R3.grown (set_grown _ (w.heap.size + 1) 2 (.slice A2 zs.length c2)) (fun g e => by cases e; left; omega)
  have hbb : Below w.heap.size w w2 := (hb.trans (Below.of_drew W)).trans (hb2.mono (show w.heap.size ≤ W.heap.size by omega))
  have B4 := ((hbb.setCell (p := ⟨w.heap.size + 1, 0, none⟩) (by simp) (.int .i64 r)).setCell (p := ⟨w.heap.size + 1, 1, none⟩) (by simp) (.int .i64 c)).setCell (p := ⟨w.heap.size + 1, 2, none⟩) (by simp) (.slice A2 zs.length c2)
  have S4 : ((((w2.setCell ⟨w.heap.size + 1, 0, none⟩ (.int .i64 r)).setCell ⟨w.heap.size + 1, 1, none⟩ (.int .i64 c)).setCell ⟨w.heap.size + 1, 2, none⟩ (.slice A2 zs.length c2)).heap.size) = w2.heap.size := by simp
  obtain ⟨W4, hW4⟩ : ∃ W4, (((w2.setCell ⟨w.heap.size + 1, 0, none⟩ (.int .i64 r)).setCell ⟨w.heap.size + 1, 1, none⟩ (.int .i64 c)).setCell ⟨w.heap.size + 1, 2, none⟩ (.slice A2 zs.length c2)) = W4 := ⟨_, rfl⟩
  rw [hW4] at P2 R4 B4 S4 ⊢
  obtain ⟨z0, z1, z2, _, _, _, _⟩ := P2
  refine bodyPost_ret (v := matV r c (.slice A2 zs.length c2)) (by simp [results, Try.results66, go_sem, z0, z1, z2]) rfl ?_
  exact ⟨_, rfl, R4.wider (by omega) (by omega), B4⟩
end Go.Proofs.Ytdebnbgjnmoleaa
