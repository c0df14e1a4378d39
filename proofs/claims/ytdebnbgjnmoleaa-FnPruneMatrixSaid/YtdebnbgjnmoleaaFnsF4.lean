/- Contracts: pruned matrices, the reference's. -/
import Derived.Test.YtdebnbgjnmoleaaFnsF3
namespace Go.Proofs.Ytdebnbgjnmoleaa
open Go.RowKit

/-- append of one number, at one operation. -/
theorem wp_app1 {w : World} {o : Oper} {a : Act} {K : Act → World → Prop} {Q : Exit → Act → World → Prop} (s x : Operand)
    (ho : o.op = .call { callee := .builtin .append, args := #[s, x], argTypes := #[22, 22] })
    (lo hi : Nat) (v : Value) (ys : List Int) (hsv : a.eval s = v) (hrow : Row w lo hi v ys) (g : Nat) (z : Int) (hx : a.eval x = .slice (some ⟨g, 0, none⟩) 1 1) (hz : w.cell? ⟨g, 0, none⟩ = some (.int .i64 z))
    (hn : ys.length ≤ 2000000) (hlo : lo ≤ w.heap.size)
    (h : ∀ v' w', Row w' lo w'.heap.size v' (ys ++ [z]) → w.grownBy w' v.ownBlock → (v'.ownBlock = v.ownBlock ∨ v'.ownBlock = some w.heap.size) → K (a.put o.dst v') w') : o.wp Try.prog a w K Q := by
  obtain ⟨i0, hi0, hz0, hz1, hz2⟩ := info_parts info_int
  have hcells : ∀ j u, [Value.int .i64 z][j]? = some u → w.cell? ((⟨g, 0, none⟩ : Addr).add j) = some u := by
    intro j u hj
    match j, hj with
    | 0, hj => simp at hj; subst hj; simpa [Addr.add] using hz
  obtain ⟨v', w', hrun, h2, h3, _, h5⟩ := run_append_own_at (P := Try.prog) w lo 22 o.type 3 i0 (.int .i64 0) 1 8 Try.underlying22 hi0 hz0 hz1 hz2 rfl (by decide) v ys.length _ hrow.1 ⟨g, 0, none⟩ 1 1 [.int .i64 z] rfl hcells (by intro u hu; simp at hu; subst hu; rfl) (by simp only [maxLen]; omega) (by omega) hlo
  unfold Oper.wp execOp
  simp only [ho, resolve, invoke, builtin, Sem.run_bind, Sem.run_pure, Result.andThen_ok, List.map_toArray, List.map_cons, List.map_nil, hsv, hx, hrun]
  exact h v' w' ⟨by simpa using h2, fun g hg => (h2.lt g hg).2⟩ h3 h5

section
variable (r c l : Int) (A : Option Addr) (cap n B : Nat) (zs : List Int) (w : World) (hs : Sl w B A zs) (hB : B ≤ w.heap.size) (e : n = zs.length) (hn : n ≤ 1100000)
include hs hB e hn
set_option maxHeartbeats 400000 in
theorem specPrune_no (h : ¬ OkP r c zs l) : Calls Try.prog 35 #[matV r c (.slice A n cap), .int .i64 l] w fun e w' => e = .returned (matV 0 0 (.slice none 0 0)) ∧ Below w.heap.size w w' := by
  subst e
  obtain ⟨W, hW⟩ : ∃ W, (w.alloc (.cells #[.int .i64 r, .int .i64 c, .slice A zs.length cap] 28)).alloc (.cells #[.int .i64 0, .int .i64 0, .slice none 0 0] 28) = W := ⟨_, rfl⟩
  obtain ⟨q0, q1, hb, hws⟩ := nest2 w r c (.slice A zs.length cap) W hW.symm
  have HS := Lib.hid (hs.below hb hB)
  have Q0 := Lib.hid q0
  have Q1 := Lib.hid q1
  obtain ⟨a0, a1, a2, f0, f1, f2, alt⟩ := q0
  clear hs q1
  go_enter Try.func35, Try.ntmps35
  go_wp2_with fail
  refine (ownM_any r c A cap _ B zs W HS.out (by omega) rfl hn).mono ?_
  rintro e w2 ⟨s2, rfl, hr2, hb2⟩
  obtain ⟨A2, c2, rfl, _, _, hs2⟩ := hr2.form
  have k0 := Q0.out.below hb2 (by omega)
  have k1 := Q1.out.below hb2 (by omega)
  have K0 := Lib.hid (((k0.set0 (.int .i64 r)).set1 (.int .i64 c)).set2 (.slice A2 zs.length c2))
  have K1 := Lib.hid (((k1.far (a := ⟨w.heap.size, 0, none⟩) (by simp) (.int .i64 r)).far (a := ⟨w.heap.size, 1, none⟩) (by simp) (.int .i64 c)).far (a := ⟨w.heap.size, 2, none⟩) (by simp) (.slice A2 zs.length c2))
  have hz2 := hb2.size
  obtain ⟨c0, c1, c2', d0, d1, d2, clt⟩ := k0
  clear a0 a1 a2 f0 f1 f2 alt Q0 Q1 k1
  go_wp2_with fail
  have R1 := hr2.grown (set_grown _ w.heap.size 0 (.int .i64 r)) (fun g e => by cases e; left; omega)
  have R2 := R1.grown (set_grown _ w.heap.size 1 (.int .i64 c)) (fun g e => by cases e; left; omega)
  have R3 := R2.grown (set_grown _ w.heap.size 2 (.slice A2 zs.length c2)) (fun g e => by cases e; left; omega)
  have B3 := (((hb.trans (hb2.mono (show w.heap.size ≤ W.heap.size by omega))).setCell (p := ⟨w.heap.size, 0, none⟩) (Nat.le_refl _) (.int .i64 r)).setCell (p := ⟨w.heap.size, 1, none⟩) (Nat.le_refl _) (.int .i64 c)).setCell (p := ⟨w.heap.size, 2, none⟩) (Nat.le_refl _) (.slice A2 zs.length c2)
  have S3 : ((((w2.setCell ⟨w.heap.size, 0, none⟩ (.int .i64 r)).setCell ⟨w.heap.size, 1, none⟩ (.int .i64 c)).setCell ⟨w.heap.size, 2, none⟩ (.slice A2 zs.length c2)).heap.size) = w2.heap.size := by simp
  obtain ⟨U, hU⟩ : ∃ U, (((w2.setCell ⟨w.heap.size, 0, none⟩ (.int .i64 r)).setCell ⟨w.heap.size, 1, none⟩ (.int .i64 c)).setCell ⟨w.heap.size, 2, none⟩ (.slice A2 zs.length c2)) = U := ⟨_, rfl⟩
  rw [hU] at K0 K1 R3 B3 S3 ⊢
  have HSU := Lib.hid (R3.sl_now.more (Nat.le_of_eq S3.symm))
  have HBU := Lib.hid B3
  clear R1 R2 R3 B3 hb2 hr2 hs2 c0 c1 c2' d0 d1 d2 clt hb
  by_cases hm : OkM r c zs
  · have hl : l < 0 ∨ 4096 < l := by
      apply Classical.byContradiction
      intro hh
      exact h ⟨hm, by omega, by omega⟩
    have HM := Lib.hid hm
    clear h hm
    refine (specMV_yes r c A2 c2 _ _ zs U HSU.out (Nat.le_refl _) rfl (by omega) HM.out).mono ?_
    rintro e w3 ⟨rfl, hb3⟩
    have P1 := K1.out.below hb3 (by omega)
    have HP1 := Lib.hid P1
    obtain ⟨b0, b1, b2, g0, g1, g2, blt⟩ := P1
    have HB := Lib.hid (HBU.out.trans (hb3.mono (by omega)))
    clear hb3
    go_wp2_with fail
    refine (l1In_no _ _ _ _ hl).mono ?_
    rintro e w' ⟨rfl, rfl⟩
    go_wp2
    have P2 := ((HP1.out.set0 (.int .i64 0)).set1 (.int .i64 0)).set2 (.slice none 0 0)
    have B4 := ((HB.out.setCell (p := ⟨w.heap.size + 1, 0, none⟩) (by simp) (.int .i64 0)).setCell (p := ⟨w.heap.size + 1, 1, none⟩) (by simp) (.int .i64 0)).setCell (p := ⟨w.heap.size + 1, 2, none⟩) (by simp) (.slice none 0 0)
    obtain ⟨W4, hW4⟩ : ∃ W4, (((w3.setCell ⟨w.heap.size + 1, 0, none⟩ (.int .i64 0)).setCell ⟨w.heap.size + 1, 1, none⟩ (.int .i64 0)).setCell ⟨w.heap.size + 1, 2, none⟩ (.slice none 0 0)) = W4 := ⟨_, rfl⟩
    rw [hW4] at P2 B4 ⊢
    obtain ⟨z0, z1, z2, _, _, _, _⟩ := P2
    refine bodyPost_ret (v := matV 0 0 (.slice none 0 0)) (by simp [results, Try.results35, go_sem, z0, z1, z2]) rfl ?_
    exact ⟨rfl, B4⟩
  · have HM := Lib.hid hm
    clear h hm
    refine (specMV_no r c A2 c2 _ _ zs U HSU.out (Nat.le_refl _) rfl (by omega) HM.out).mono ?_
    rintro e w3 ⟨rfl, hb3⟩
    have P1 := K1.out.below hb3 (by omega)
    have HP1 := Lib.hid P1
    obtain ⟨b0, b1, b2, g0, g1, g2, blt⟩ := P1
    have HB := Lib.hid (HBU.out.trans (hb3.mono (by omega)))
    clear hb3
    go_wp2
    have P2 := ((HP1.out.set0 (.int .i64 0)).set1 (.int .i64 0)).set2 (.slice none 0 0)
    have B4 := ((HB.out.setCell (p := ⟨w.heap.size + 1, 0, none⟩) (by simp) (.int .i64 0)).setCell (p := ⟨w.heap.size + 1, 1, none⟩) (by simp) (.int .i64 0)).setCell (p := ⟨w.heap.size + 1, 2, none⟩) (by simp) (.slice none 0 0)
    obtain ⟨W4, hW4⟩ : ∃ W4, (((w3.setCell ⟨w.heap.size + 1, 0, none⟩ (.int .i64 0)).setCell ⟨w.heap.size + 1, 1, none⟩ (.int .i64 0)).setCell ⟨w.heap.size + 1, 2, none⟩ (.slice none 0 0)) = W4 := ⟨_, rfl⟩
    rw [hW4] at P2 B4 ⊢
    obtain ⟨z0, z1, z2, _, _, _, _⟩ := P2
    refine bodyPost_ret (v := matV 0 0 (.slice none 0 0)) (by simp [results, Try.results35, go_sem, z0, z1, z2]) rfl ?_
    exact ⟨rfl, B4⟩
end
end Go.Proofs.Ytdebnbgjnmoleaa
