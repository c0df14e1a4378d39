/- Contracts: random lists, the program's. -/
import Derived.Test.YtilmglockldddaaFnsR5
import Derived.Lib.JoinLaws
import Derived.Maps.AppendAt
namespace Go.Proofs.Ytilmglockldddaa
open Go.RowKit Go.Shelf

attribute [local go_sem] Oper.semAt_some

/-- append of one number, in a fenced walk. -/
theorem wpListIn_app1 {F : Fence} {n : Nat} {w : World} {ops : Array Oper} {rest : List Oper} {o : Oper} {a : Act} {Q : Exit → Act → World → Prop} (hgd : o.guard = none) (s x : Operand)
    (ho : o.op = .call { callee := .builtin .append, args := #[s, x], argTypes := #[22, 22] })
    (lo hi : Nat) (v : Value) (ys : List Int) (hsv : a.eval s = v) (hrow : Row w lo hi v ys) (g : Nat) (z : Int) (hx : a.eval x = .slice (some ⟨g, 0, none⟩) 1 1) (hz : w.cell? ⟨g, 0, none⟩ = some (.int .i64 z))
    (hn : ys.length ≤ 2000000) (hlo : lo ≤ w.heap.size)
    (h : ∀ v' w', Row w' lo w'.heap.size v' (ys ++ [z]) → w.grownBy w' v.ownBlock → (v'.ownBlock = v.ownBlock ∨ v'.ownBlock = some w.heap.size) → wpListIn F n Try.prog ops Q rest (a.put o.dst v') w') : wpListIn F n Try.prog ops Q (o :: rest) a w := by
  obtain ⟨i0, hi0, hz0, hz1, hz2⟩ := info_parts info_int
  have hcells : ∀ j u, [Value.int .i64 z][j]? = some u → w.cell? ((⟨g, 0, none⟩ : Addr).add j) = some u := by
    intro j u hj
    match j, hj with
    | 0, hj => simp at hj; subst hj; simpa [Addr.add] using hz
  obtain ⟨v', w', hrun, h2, h3, _, h5⟩ := run_append_own_at (P := Try.prog) w lo 22 o.type 3 i0 (.int .i64 0) 1 8 Try.underlying22 hi0 hz0 hz1 hz2 rfl (by decide) v ys.length _ hrow.1 ⟨g, 0, none⟩ 1 1 [.int .i64 z] rfl hcells (by intro u hu; simp at hu; subst hu; rfl) (by simp only [maxLen]; omega) (by omega) hlo
  refine wpListIn_plain hgd fun K hK' => ?_
  unfold Oper.wpIn
  refine ⟨?_, ?_⟩
  · simp [Oper.about, ho, resolve, Target.leads, Sem.run_pure]
  · rw [Oper.semAt_plain F _ _ (by rw [ho]; intro c hc'; cases hc')]
    simp [execOp, ho, resolve, invoke, builtin, hsv, hx, hrun, Result.andThen]
    exact hK' _ _ (h v' w' ⟨by simpa using h2, fun g hg => (h2.lt g hg).2⟩ h3 h5)
/-- The boxes and the list of RandomList, where the list has kl numbers and the stream has made ks steps; h: the heap's size at the call. -/
structure RL (h : Nat) (s : Int) (n ks kl : Nat) (v : Value) (W : World) : Prop where
  many : W.cell? ⟨h, 0, none⟩ = some (.int .i64 n)
  list : W.cell? ⟨h + 2, 0, none⟩ = some v
  listF : W.frozen? ⟨h + 2, 0, none⟩ = false
  last : W.cell? ⟨h + 3, 0, none⟩ = some (.int .i64 (rSd s kl))
  lastF : W.frozen? ⟨h + 3, 0, none⟩ = false
  seed : SeedAt s (h + 4) ks W
  row : Row W (h + 1) W.heap.size v (rLs s kl)
  own : ∀ g, v.ownBlock = some g → g = h + 1 ∨ h + 7 ≤ g
theorem Row.cells {W : World} {lo hi : Nat} {v : Value} {zs : List Int} (h : Row W lo hi v zs) : ∀ (j : Nat) (o : Obj), v.ownBlock = some j → W.heap[j]? = some o → o.isCells = true := by
  intro j o hj ho
  obtain ⟨⟨_, hr⟩, _⟩ := h
  rcases hr with ⟨hv, _⟩ | ⟨g', cap, cur, hv, _, hg, _⟩
  · subst hv
    simp [Value.ownBlock] at hj
  · subst hv
    simp [Value.ownBlock] at hj
    subst hj
    rw [hg] at ho
    cases ho
    rfl
/-- What is no cells may turn. -/
theorem RL.turned {h : Nat} {s : Int} {n ks kl : Nat} {v : Value} {W W' : World} {row : Option Nat} (r : RL h s n ks kl v W) (hg : W.grownBy W' row) (hr : ∀ r, row = some r → ∃ o : Obj, W.heap[r]? = some o ∧ o.isCells = false) : RL h s n ks kl v W' := by
  refine ⟨cell_kept r.many hg hr, cell_kept r.list hg hr, (frozen_kept r.list hg hr).trans r.listF, cell_kept r.last hg hr, (frozen_kept r.last hg hr).trans r.lastF, ⟨cell_kept r.seed.1 hg hr, (frozen_kept r.seed.1 hg hr).trans r.seed.2⟩, ?_, r.own⟩
  have hrow := r.row
  refine ⟨hrow.1.kept hg ?_, fun g hv => Nat.lt_of_lt_of_le (hrow.2 g hv) hg.size⟩
  cases hv : v.ownBlock with
  | none => exact .inl rfl
  | some g =>
    right
    intro e
    obtain ⟨o, ho, hc⟩ := hr g e.symm
    rw [hrow.cells g o hv ho] at hc
    cases hc
/-- The stream's step. -/
theorem RL.step {h : Nat} {s : Int} {n ks kl : Nat} {v : Value} {W : World} (r : RL h s n ks kl v W) : RL h s n (ks + 1) kl v (W.setCell ⟨h + 4, 0, none⟩ (.int .i64 (rSd s (ks + 1)))) := by
  have hg := set_grown W (h + 4) 0 (.int .i64 (rSd s (ks + 1)))
  refine ⟨(World.cell?_setCell_other _ _ _ _ (by simp)).trans r.many, (World.cell?_setCell_other _ _ _ _ (by simp)).trans r.list, by simp [r.listF], (World.cell?_setCell_other _ _ _ _ (by simp)).trans r.last, by simp [r.lastF], ⟨World.cell?_setCell_same _ _ _ r.seed.1, by simp [r.seed.2]⟩, ?_, r.own⟩
  have hrow := r.row
  refine ⟨hrow.1.kept hg ?_, fun g hv => Nat.lt_of_lt_of_le (hrow.2 g hv) hg.size⟩
  cases hv : v.ownBlock with
  | none => exact .inl rfl
  | some g =>
    right
    intro e
    have h1 := r.own g hv
    injection e with e
    omega
/-- The body's two stores behind the append. -/
theorem RL.put {h : Nat} {s : Int} {n k : Nat} {v v' : Value} {W W' : World} (r : RL h s n k k v W) (hh : h + 7 ≤ W.heap.size) (o : Obj) (hrow : Row W' (h + 1) W'.heap.size v' (rLs s k ++ [rNum (rSd s (k + 1))])) (hg : (W.alloc o).grownBy W' v.ownBlock) (hat : v'.ownBlock = v.ownBlock ∨ v'.ownBlock = some (W.alloc o).heap.size) :
    RL h s n k (k + 1) v' ((W'.setCell ⟨h + 2, 0, none⟩ v').setCell ⟨h + 3, 0, none⟩ (.int .i64 (rSd s (k + 1)))) ∧ KeepsOthers W ((W'.setCell ⟨h + 2, 0, none⟩ v').setCell ⟨h + 3, 0, none⟩ (.int .i64 (rSd s (k + 1)))) ∧
      (∃ u, W'.cell? ⟨h + 2, 0, none⟩ = some u) ∧ W'.frozen? ⟨h + 2, 0, none⟩ = false ∧ (∃ u, W'.cell? ⟨h + 3, 0, none⟩ = some u) ∧ W'.frozen? ⟨h + 3, 0, none⟩ = false ∧ W.heap.size ≤ W'.heap.size ∧ (∀ g, v.ownBlock = some g → h + 1 ≤ g) := by
  have hal := World.grownBy_alloc W o none
  have ne : ∀ j, (j = h ∨ j = h + 2 ∨ j = h + 3 ∨ j = h + 4) → some j ≠ v.ownBlock := fun j hj e => by
    have h1 := r.own j e.symm
    omega
  have lt : ∀ j, j ≤ h + 4 → j < (W.alloc o).heap.size := fun j hj => by simp; omega
  have c0 := hg.cell (hal.cell r.many (by simp)) (ne _ (by simp))
  have c2 := hg.cell (hal.cell r.list (by simp)) (ne (h + 2) (by simp))
  have c3 := hg.cell (hal.cell r.last (by simp)) (ne (h + 3) (by simp))
  have c4 := hg.cell (hal.cell r.seed.1 (by simp)) (ne (h + 4) (by simp))
  have f2 : W'.frozen? ⟨h + 2, 0, none⟩ = false := (frozen_grown hg (lt (h + 2) (by omega)) (ne _ (by simp))).trans ((frozen_grown hal (show h + 2 < W.heap.size by omega) (by simp)).trans r.listF)
  have f3 : W'.frozen? ⟨h + 3, 0, none⟩ = false := (frozen_grown hg (lt (h + 3) (by omega)) (ne _ (by simp))).trans ((frozen_grown hal (show h + 3 < W.heap.size by omega) (by simp)).trans r.lastF)
  have f4 : W'.frozen? ⟨h + 4, 0, none⟩ = false := (frozen_grown hg (lt (h + 4) (by omega)) (ne _ (by simp))).trans ((frozen_grown hal (show h + 4 < W.heap.size by omega) (by simp)).trans r.seed.2)
  have own' : ∀ g, v'.ownBlock = some g → g = h + 1 ∨ h + 7 ≤ g := fun g hv => by
    rcases hat with e | e
    · exact r.own g (e.symm.trans hv)
    · rw [e] at hv
      injection hv with hv
      simp at hv
      omega
  refine ⟨⟨?_, ?_, ?_, ?_, ?_, ⟨?_, ?_⟩, ?_, own'⟩, ?_, ⟨_, c2⟩, f2, ⟨_, c3⟩, f3, ?_, ?_⟩
  · exact (World.cell?_setCell_other _ _ _ _ (by simp)).trans ((World.cell?_setCell_other _ _ _ _ (by simp)).trans c0)
  · exact (World.cell?_setCell_other _ _ _ _ (by simp)).trans (World.cell?_setCell_same _ _ _ c2)
  · simp [f2]
  · exact World.cell?_setCell_same _ _ _ ((World.cell?_setCell_other _ _ _ _ (by simp)).trans c3)
  · simp [f3]
  · exact (World.cell?_setCell_other _ _ _ _ (by simp)).trans ((World.cell?_setCell_other _ _ _ _ (by simp)).trans c4)
  · simp [f4]
  · rw [rLs_succ]
    have kp : ∀ (X Y : World) (j : Nat), j ≤ h + 4 → j ≠ h + 1 → X.grownBy Y (some j) → Row X (h + 1) X.heap.size v' (rLs s k ++ [rNum (rSd s (k + 1))]) → Row Y (h + 1) Y.heap.size v' (rLs s k ++ [rNum (rSd s (k + 1))]) := fun X Y j hj hj1 hgg hx => by
      refine ⟨hx.1.kept hgg ?_, fun g hv => Nat.lt_of_lt_of_le (hx.2 g hv) hgg.size⟩
      cases hv : v'.ownBlock with
      | none => exact .inl rfl
      | some g =>
        right
        intro e
        have h1 := own' g hv
        injection e with e
        omega
    exact kp _ _ (h + 3) (by omega) (by omega) (set_grown _ (h + 3) 0 _) (kp _ _ (h + 2) (by omega) (by omega) (set_grown W' (h + 2) 0 v') hrow)
  · have k1 : KeepsOthers W W' := (KeepsOthers.alloc W o).trans (KeepsOthers.of_grownBy hg (fun j ob hj ho => (r.row.grown hal (fun g e => by cases e)).cells j ob hj ho))
    exact (k1.trans (KeepsOthers.setCell _ _ _)).trans (KeepsOthers.setCell _ _ _)
  · have := hg.size; simp at this; omega
  · exact fun g hv => by have := r.own g hv; omega
end Go.Proofs.Ytilmglockldddaa
