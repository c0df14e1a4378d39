/- The reckoning over the slots' kinds is sound, operation by operation. -/
import Derived.Test.YtfkccdmjlopleaaAbsSound
import Derived.Laws.Small
import Derived.Laws.NewBlocks
namespace Go.Proofs.Ytfkccdmjlopleaa
open Go.RowKit

section
variable {P : Program} {R : Nat} {X : Nat → World → Value → Prop} {T : Nat → List Ty} {G : Tmp → Option Ty} {a : Act} {w : World}

theorem wp_value {o : Oper} {K : Act → World → Prop} {Q : Exit → Act → World → Prop} {v : Value} {w' : World} (h : (execOp a.eval o).run P w = .ok (.value v) w') (hK : K (a.put o.dst v) w') : o.wp P a w K Q := by
  unfold Oper.wp
  rw [h]
  exact hK

theorem run_arith {o : Oper} {op : BinOp} {t t' : TypeId} {x y : Operand} {p q : Int} {σ ρ τ : Ty} (ho : o.op = .binOp op t x y t') (hx : a.eval x = .int .i64 p) (hy : a.eval y = .int .i64 q) (h : absArith op σ ρ = some τ)
    (h1 : σ.lo ≤ p) (h2 : p ≤ σ.hi) (h3 : ρ.lo ≤ q) (h4 : q ≤ ρ.hi) : ∃ v, (execOp a.eval o).run P w = .ok (.value v) w ∧ ∀ w', τ.ok R X T w' v := by
  have hb : ∀ v, (binOp op t (.int .i64 p) (.int .i64 q)).run P w = .ok v w → (execOp a.eval o).run P w = .ok (.value v) w := by
    intro v hv
    unfold execOp
    simp only [ho, hx, hy]
    have he : (eqGuard op t x y (.int .i64 p) (.int .i64 q)).run P w = .ok () w := by
      unfold eqGuard
      cases op <;> simp
    simp [Sem.run_bind, he, hv]
  unfold absArith at h
  split at h
  · -- add
    split at h
    · rename_i hin
      injection h with h
      subst h
      simp only [inW64, Bool.and_eq_true, decide_eq_true_eq] at hin
      refine ⟨.int .i64 (p + q), hb _ ?_, fun _ => ok_int (by omega) (by omega)⟩
      simp only [binOp, Op.intArith]
      simp [IntWalk.i64_in (p + q) (by omega)]
    · cases h
  · -- sub
    split at h
    · rename_i hin
      injection h with h
      subst h
      simp only [inW64, Bool.and_eq_true, decide_eq_true_eq] at hin
      refine ⟨.int .i64 (p - q), hb _ ?_, fun _ => ok_int (by omega) (by omega)⟩
      simp only [binOp, Op.intArith]
      simp [IntWalk.i64_in (p - q) (by omega)]
    · cases h
  · -- mul
    split at h
    · rename_i hin
      injection h with h
      subst h
      simp only [inW64, Bool.and_eq_true, decide_eq_true_eq] at hin
      have hq : q = ρ.lo := by omega
      have m1 : σ.lo * ρ.lo ≤ p * q := by rw [hq]; exact Int.mul_le_mul_of_nonneg_right h1 hin.1.1
      have m2 : p * q ≤ σ.hi * ρ.lo := by rw [hq]; exact Int.mul_le_mul_of_nonneg_right h2 hin.1.1
      refine ⟨.int .i64 (p * q), hb _ ?_, fun _ => ok_int m1 m2⟩
      simp only [binOp, Op.intArith]
      simp [IntWalk.i64_in (p * q) (by omega)]
    · split at h
      · rename_i hin
        injection h with h
        subst h
        simp only [inW64, Bool.and_eq_true, decide_eq_true_eq] at hin
        have m1 : σ.lo * ρ.lo ≤ p * q := Int.mul_le_mul h1 h3 hin.1.2 (by omega)
        have m2 : p * q ≤ σ.hi * ρ.hi := Int.mul_le_mul h2 h4 (by omega) (by omega)
        have m0 : 0 ≤ p * q := Int.mul_nonneg (by omega) (by omega)
        refine ⟨.int .i64 (p * q), hb _ ?_, fun _ => ok_int m1 m2⟩
        simp only [binOp, Op.intArith]
        simp [IntWalk.i64_in (p * q) (by omega)]
      · cases h
  · -- quo
    split at h
    · rename_i hin
      injection h with h
      subst h
      simp only [Bool.and_eq_true, decide_eq_true_eq] at hin
      obtain ⟨⟨g1, g2⟩, g3⟩ := hin
      have e : p.tdiv q = p / q := Int.tdiv_eq_ediv_of_nonneg (by omega)
      have d0 : 0 ≤ p / q := Int.ediv_nonneg (by omega) (by omega)
      have d1 : p / q ≤ p := Int.ediv_le_self _ (by omega)
      have m1 : σ.lo / ρ.hi ≤ p / q := by
        have a1 : σ.lo / ρ.hi ≤ p / ρ.hi := Int.ediv_le_ediv (by omega) h1
        have a2 : p / ρ.hi ≤ p / q := Int.le_ediv_of_mul_le (by omega) (Int.le_trans (Int.mul_le_mul_of_nonneg_left h4 (Int.ediv_nonneg (by omega) (by omega))) (Int.ediv_mul_le _ (by omega)))
        exact Int.le_trans a1 a2
      have m2 : p / q ≤ σ.hi / ρ.lo := by
        have a1 : p / q ≤ σ.hi / q := Int.ediv_le_ediv (by omega) h2
        have a2 : σ.hi / q ≤ σ.hi / ρ.lo := Int.le_ediv_of_mul_le (by omega) (Int.le_trans (Int.mul_le_mul_of_nonneg_left h3 (Int.ediv_nonneg (by omega) (by omega))) (Int.ediv_mul_le _ (by omega)))
        exact Int.le_trans a1 a2
      refine ⟨.int .i64 (p / q), hb _ ?_, fun _ => ok_int m1 m2⟩
      simp only [binOp, Op.intDiv]
      rw [if_neg (show ¬ q = 0 by omega), e]
      simp [IntWalk.i64_in (p / q) (by omega)]
    · cases h
  · -- rem
    split at h
    · rename_i hin
      injection h with h
      subst h
      simp only [Bool.and_eq_true, decide_eq_true_eq] at hin
      have e : p.tmod q = p % q := Int.tmod_eq_emod_of_nonneg (by omega)
      have d0 : 0 ≤ p % q := Int.emod_nonneg _ (by omega)
      have d1 : p % q < q := Int.emod_lt_of_pos _ (by omega)
      refine ⟨.int .i64 (p % q), hb _ ?_, fun _ => ok_int d0 (by omega)⟩
      simp only [binOp, Op.intDiv]
      rw [if_neg (show ¬ q = 0 by omega), e]
      simp
    · cases h
  all_goals first
    | (injection h with h
       subst h
       refine ⟨_, hb _ (by simp only [binOp, Op.intCmp]; exact Sem.run_pure ..), fun _ => ?_⟩
       simp only [Ty.ok, Ty.ok0]
       exact ⟨_, rfl⟩)
    | cases h

theorem absOp_sound {tS tI : TypeId} (ty : IntTypes P tS tI) {sig : FuncId → List Ty → Option Ty} {J : Nat → World → Prop} {k : Nat}
    (hJ1 : ∀ k w, J k w → J (k + 1) w) (hJ2 : ∀ k w o, J k w → J (k + 1) (w.alloc o)) (hJR : ∀ k w, J k w → R < w.heap.size)
    (hsig : ∀ f ts τ vs k w, sig f ts = some τ → okArgs R X T w ts vs → J k w → k < 1000 → (∀ w, (callFunc f vs.toArray).run P w = .ok (.enter f vs.toArray) w) ∧
      Calls P f vs.toArray w fun e w' => ∃ v, e = .returned v ∧ τ.ok R X T w' v ∧ J (k + 1) w' ∧ w.grownBy w' (some R))
    (hG : ∀ t σ, G t = some σ → σ.ok R X T w (a.tmps.getD t undef)) (hJk : J k w) (hk1000 : k < 1000) {o : Oper} {τ : Ty} (h : absOp tS tI T sig G o = some τ)
    {K : Act → World → Prop} {Q : Exit → Act → World → Prop} (hK : ∀ v w', τ.ok R X T w' v → J (k + 1) w' → w.grownBy w' (some R) → K (a.put o.dst v) w') : o.wp P a w K Q := by
  have same : ∀ v, (execOp a.eval o).run P w = .ok (.value v) w → τ.ok R X T w v → o.wp P a w K Q := fun v hv hok => wp_value hv (hK v w hok (hJ1 _ _ hJk) (World.grownBy.refl w _))
  unfold absOp at h
  split at h
  · rename_i x ho
    refine same (a.eval x) ?_ (absX_sound hG h)
    unfold execOp; simp only [ho, Sem.run_pure]
  · rename_i x ho
    refine same (a.eval x) ?_ (absX_sound hG h)
    unfold execOp; simp only [ho, Sem.run_pure]
  · rename_i op t x y t' ho
    split at h
    · rename_i σ ρ h1 h2
      split at h
      · rename_i hk
        obtain ⟨p, hp, hp1, hp2⟩ := of_ok_int (absX_sound hG h1) hk.1
        obtain ⟨q, hq, hq1, hq2⟩ := of_ok_int (absX_sound hG h2) hk.2
        obtain ⟨v, hv, hok⟩ := run_arith (P := P) (R := R) (X := X) (T := T) (w := w) ho hp hq h hp1 hp2 hq1 hq2
        exact same v hv (hok w)
      · cases h
    · cases h
  · -- buildSlice
    rename_i t len parts ho
    split at h
    · rename_i hc
      obtain ⟨rfl, rfl, hlen⟩ := hc
      split at h
      · rename_i b hb
        injection h with h
        subst h
        obtain ⟨i0, hi0, hz0, hz1, hz2⟩ := info_parts ty.info
        obtain ⟨cs, e1, e2, e3⟩ := fill_sound hG parts.toList 0 b.1 b.2 b.1 b.2 ((Array.range parts.size).map fun _ => Value.int .i64 0) hb (Int.le_refl _) (Int.le_refl _) (by simp) (fun j hj => absurd hj (Nat.not_lt_zero _))
        have hrun : (execOp a.eval o).run P w = .ok (.value (.slice (some ⟨w.heap.size, 0, none⟩) parts.size parts.size)) (w.alloc (.cells cs tI)) := by
          have hne : parts.size ≠ 0 := by
            intro h0
            have : parts.toList = [] := by simpa using h0
            rw [this] at hb
            cases hb
          have hcells : (Array.map (fun x => #[Value.int IntKind.i64 0][x % (#[Value.int IntKind.i64 0] : Array Value).size]!) (Array.range (parts.size * 1))) = (Array.range parts.size).map fun _ => Value.int .i64 0 := by
            rw [Nat.mul_one]
            apply Array.map_congr_left
            intro x _
            simp [Nat.mod_one]
          have hpl : (Array.map (fun x : Nat × Operand => (x.1, a.eval x.2)) parts).toList = parts.toList.map fun p => (p.1, a.eval p.2) := by simp
          have hlim : ¬ (parts.size * 1 > 2 ^ 24) := by omega
          have hz3 : (Value.int .i64 0).cells = #[Value.int .i64 0] := rfl
          have hfl : Instr.fill (fun i => some (i * 1, 1)) ((Array.range (parts.size * 1)).map (#[Value.int .i64 0][· % (#[Value.int .i64 0] : Array Value).size]!)) (Array.map (fun x : Nat × Operand => (x.1, a.eval x.2)) parts).toList = some cs := by
            rw [hpl, ← e1]
            exact congrArg (fun c => Instr.fill (fun i => some (i * 1, 1)) c _) hcells
          have hne' : ¬ (parts.size * 1 = 0) := by omega
          have hrow : ∀ cs, (newRow tI cs).run P w = .ok ⟨w.heap.size, 0, none⟩ (w.alloc (.cells cs tI)) := fun cs => by simp [newRow, go_sem]
          have hb : (Instr.buildSlice t parts.size (Array.map (fun x : Nat × Operand => (x.1, a.eval x.2)) parts)).run P w = .ok (.slice (some ⟨w.heap.size, 0, none⟩) parts.size parts.size) (w.alloc (.cells cs tI)) := by
            unfold Instr.buildSlice
            have hsz : (sizeOf tI).run P w = .ok 1 w := by simp [sizeOf, typeInfo, hi0, hz1]
            have hzv : (zeroValue tI).run P w = .ok (.int .i64 0) w := by simp [zeroValue, typeInfo, hi0, hz0]
            simp only [Sem.run_bind, run_underlying ty.sl, Result.andThen_ok, hsz, if_neg hlim, if_neg hne', hzv, Sem.run_pure, hz3, hfl, hrow]
          unfold execOp
          simp only [ho, Sem.run_bind, hb, Result.andThen_ok, Sem.run_pure]
        refine wp_value hrun (hK _ _ ?_ (hJ2 _ _ _ hJk) (World.grownBy_alloc w _ _))
        simp only [Ty.ok, Ty.ok0]
        refine ⟨w.heap.size, rfl, ?_, fun j hj => ?_⟩
        · exact hJR _ _ hJk
        · obtain ⟨z, hz, hz1, hz2⟩ := e3 j (by simpa using hj)
          refine ⟨z, ?_, hz1, hz2⟩
          rw [cell_of_row _ w.heap.size j cs tI (0, 0) (heap_alloc_new w _)]
          exact hz
      · cases h
    · cases h
  · -- indexAddr
    rename_i t x i ho
    split at h
    · rename_i σ ρ h1 h2
      split at h
      · rename_i hc
        obtain ⟨rfl, hk1, hk2, hlo, hhi⟩ := hc
        injection h with h
        subst h
        obtain ⟨g, hv, hne, hcell⟩ := of_ok_sl (absX_sound hG h1) hk1
        obtain ⟨q, hq, hq1, hq2⟩ := of_ok_int (absX_sound hG h2) hk2
        obtain ⟨i0, hi0, hz0, hz1, hz2⟩ := info_parts ty.info
        obtain ⟨z, hz, hzr⟩ := hcell q.toNat (by omega)
        refine same (.pointer (some ⟨g, q.toNat, none⟩)) ?_ ?_
        · unfold execOp
          have hsz : (sizeOf tI).run P w = .ok 1 w := by simp [sizeOf, typeInfo, hi0, hz1]
          have hb : (Instr.indexAt t (.slice (some ⟨g, 0, none⟩) σ.n σ.n) (.int .i64 q)).run P w = .ok (.pointer (some ⟨g, q.toNat, none⟩)) w := by
            have hin : 0 ≤ q ∧ q < (σ.n : Int) := by omega
            have hadd : (⟨g, 0, none⟩ : Addr).add (q.toNat * 1) = ⟨g, q.toNat, none⟩ := by unfold Addr.add; split <;> simp_all
            unfold Instr.indexAt
            simp only [asIntOf, Sem.run_bind, Sem.run_pure, Result.andThen_ok, run_underlying ty.sl, if_pos hin, hsz, hadd]
          simp only [ho, hv, hq, Sem.run_bind, hb, Result.andThen_ok, Sem.run_pure]
        · simp only [Ty.ok, Ty.ok0]
          exact ⟨g, q.toNat, z, rfl, hne, hz, hzr⟩
      · cases h
    · cases h
  · -- load
    rename_i t p ho
    split at h
    · rename_i σ h1
      split at h
      · rename_i hc
        obtain ⟨rfl, hk⟩ := hc
        injection h with h
        subst h
        obtain ⟨g, q, z, hv, hne, hcell, hzr⟩ := of_ok_ptr (absX_sound hG h1) hk
        refine same (.int .i64 z) ?_ (ok_int hzr.1 hzr.2)
        unfold execOp
        have hb : (Instr.loadAt t (.pointer (some ⟨g, q, none⟩))).run P w = .ok (.int .i64 z) w := by
          unfold Instr.loadAt loadVar isAgg
          simp only [Instr.sureAddr, Sem.run_bind, Sem.run_pure, Result.andThen_ok, run_underlying ty.el]
          simp [go_sem, hcell]
        simp only [ho, hv, Sem.run_bind, hb, Result.andThen_ok, Sem.run_pure]
      · split at h
        · rename_i hc
          obtain ⟨rfl, hk⟩ := hc
          injection h with h
          subst h
          obtain ⟨g, u, hv, hne, hcell, hX⟩ := of_ok_fl (absX_sound hG h1) hk
          refine same u ?_ ?_
          · unfold execOp
            have hb : (Instr.loadAt t (.pointer (some ⟨g, 2, none⟩))).run P w = .ok u w := by
              unfold Instr.loadAt loadVar isAgg
              simp only [Instr.sureAddr, Sem.run_bind, Sem.run_pure, Result.andThen_ok, run_underlying ty.sl]
              simp [go_sem, hcell]
            simp only [ho, hv, Sem.run_bind, hb, Result.andThen_ok, Sem.run_pure]
          · have e1 : (Ty.own σ.n).k = σ.n + 10 := rfl
            unfold Ty.ok Ty.ok0
            rw [if_neg (by rw [e1]; omega), if_neg (by rw [e1]; omega), if_neg (by rw [e1]; omega), if_neg (by rw [e1]; omega), if_neg (by rw [e1]; omega), if_neg (by rw [e1]; omega), if_neg (by rw [e1]; omega), if_neg (by rw [e1]; omega), if_neg (by rw [e1]; omega), if_neg (by rw [e1]; omega), if_pos (by rw [e1]; omega), e1, Nat.add_sub_cancel]
            exact hX
        · split at h
          · rename_i hc
            obtain ⟨ht, hk⟩ := hc
            injection h with h
            subst h
            obtain ⟨g, x, y, z, hv, hne, hc0, hc1, hc2, hX⟩ := of_ok_ag (absX_sound hG h1) hk
            refine same (.agg #[x, y, z]) ?_ ?_
            · unfold execOp
              simp only [ho, hv, Sem.run_bind, ty.ld t ht g w x y z hc0 hc1 hc2, Result.andThen_ok, Sem.run_pure]
            · have e1 : (Ty.own σ.n).k = σ.n + 10 := rfl
              unfold Ty.ok Ty.ok0
              rw [if_neg (by rw [e1]; omega), if_neg (by rw [e1]; omega), if_neg (by rw [e1]; omega), if_neg (by rw [e1]; omega), if_neg (by rw [e1]; omega), if_neg (by rw [e1]; omega), if_neg (by rw [e1]; omega), if_neg (by rw [e1]; omega), if_neg (by rw [e1]; omega), if_neg (by rw [e1]; omega), if_pos (by rw [e1]; omega), e1, Nat.add_sub_cancel]
              exact hX
          · split at h
            · rename_i hc
              obtain ⟨ht, hk⟩ := hc
              injection h with h
              subst h
              obtain ⟨g, x0, x1, x2, x3, x4, x5, hv, hne, hc0, hc1, hc2, hc3, hc4, hc5, hX⟩ := of_ok_ag6 (absX_sound hG h1) hk
              refine same (.agg #[x0, x1, x2, x3, x4, x5]) ?_ ?_
              · unfold execOp
                simp only [ho, hv, Sem.run_bind, ty.ld6 t ht g w x0 x1 x2 x3 x4 x5 hc0 hc1 hc2 hc3 hc4 hc5, Result.andThen_ok, Sem.run_pure]
              · have e1 : (Ty.own σ.n).k = σ.n + 10 := rfl
                unfold Ty.ok Ty.ok0
                rw [if_neg (by rw [e1]; omega), if_neg (by rw [e1]; omega), if_neg (by rw [e1]; omega), if_neg (by rw [e1]; omega), if_neg (by rw [e1]; omega), if_neg (by rw [e1]; omega), if_neg (by rw [e1]; omega), if_neg (by rw [e1]; omega), if_neg (by rw [e1]; omega), if_neg (by rw [e1]; omega), if_pos (by rw [e1]; omega), e1, Nat.add_sub_cancel]
                exact hX
            · cases h
    · cases h
  · -- fieldAddr
    rename_i t x i ho
    split at h
    · rename_i σ h1
      split at h
      · rename_i hc
        obtain ⟨ht, rfl, hk⟩ := hc
        injection h with h
        subst h
        obtain ⟨g, u, hv, hne, hcell, hX⟩ := of_ok_st (absX_sound hG h1) hk
        refine same (.pointer (some ⟨g, 2, none⟩)) ?_ ?_
        · unfold execOp
          simp only [ho, hv, Sem.run_bind, ty.fld t ht g w, Result.andThen_ok, Sem.run_pure]
        · simp only [Ty.ok, Ty.ok0]
          exact ⟨g, u, rfl, hne, hcell, hX⟩
      · cases h
    · cases h
  · -- nilCheck
    rename_i x ho
    split at h
    · rename_i σ h1
      split at h
      · rename_i hk
        injection h with h
        subst h
        have hv := of_ok_rd (absX_sound hG h1) hk
        refine same (.pointer (some ⟨R, 0, none⟩)) ?_ (by rw [← hv]; exact absX_sound hG h1)
        unfold execOp
        simp only [ho, hv, Sem.run_pure]
      · cases h
    · cases h
  · -- call
    rename_i c ho
    split at h
    · rename_i f hf
      split at h
      · rename_i ts hts
        have hargs := absArgs_sound hG hts
        obtain ⟨he, hcall⟩ := hsig f ts τ _ k w h hargs hJk hk1000
        have hrun : (execOp a.eval o).run P w = .ok (.enter f (c.args.toList.map a.eval).toArray) w := by
          unfold execOp
          have hm : (#[] : Array Value) ++ (c.args.map a.eval) ++ (#[] : Array Value) = (c.args.toList.map a.eval).toArray := by apply Array.ext'; simp
          simp only [ho, resolve, hf, Act.eval, Deferred.ofValue, Sem.run_bind, Sem.run_pure, Result.andThen_ok, invoke]
          rw [hm]
          exact he w
        unfold Oper.wp
        rw [hrun]
        refine hcall.mono ?_
        rintro e w' ⟨v, rfl, hok, hJ', hg⟩
        exact hK v w' hok hJ' hg
      · cases h
    · rename_i hf
      split at h
      · rename_i σ ρ hts
        split at h
        · rename_i hk
          injection h with h
          subst h
          have hargs := absArgs_sound hG hts
          have hl : ∃ v1 v2, c.args.toList.map a.eval = [v1, v2] ∧ σ.ok R X T w v1 ∧ ρ.ok R X T w v2 := by
            generalize c.args.toList.map a.eval = l at hargs
            match l, hargs with
            | [v1, v2], hh => exact ⟨v1, v2, rfl, hh.1, hh.2.1⟩
          obtain ⟨v1, v2, hl, hv1, hv2⟩ := hl
          obtain ⟨p, rfl, hp1, hp2⟩ := of_ok_int hv1 hk.1
          obtain ⟨q, rfl, hq1, hq2⟩ := of_ok_int hv2 hk.2
          have hm : (#[] : Array Value) ++ (c.args.map a.eval) ++ (#[] : Array Value) = #[.int .i64 p, .int .i64 q] := by
            apply Array.ext'
            simp [hl]
          have hm' : (c.args.map a.eval) = #[.int .i64 p, .int .i64 q] := by
            apply Array.ext'
            simp [hl]
          refine same (.int .i64 (min p q)) ?_ (ok_int (by omega) (by omega))
          unfold execOp
          simp only [ho, resolve, hf, hm', Sem.run_bind, Sem.run_pure, Result.andThen_ok, invoke, builtin, run_min_int2]
          congr 3
          rw [Int.min_def]; split <;> split <;> omega
        · cases h
      · cases h
    · rename_i hf
      split at h
      · rename_i σ ρ hts
        split at h
        · rename_i hk
          injection h with h
          subst h
          have hargs := absArgs_sound hG hts
          have hl : ∃ v1 v2, c.args.toList.map a.eval = [v1, v2] ∧ σ.ok R X T w v1 ∧ ρ.ok R X T w v2 := by
            generalize c.args.toList.map a.eval = l at hargs
            match l, hargs with
            | [v1, v2], hh => exact ⟨v1, v2, rfl, hh.1, hh.2.1⟩
          obtain ⟨v1, v2, hl, hv1, hv2⟩ := hl
          obtain ⟨p, rfl, hp1, hp2⟩ := of_ok_int hv1 hk.1
          obtain ⟨q, rfl, hq1, hq2⟩ := of_ok_int hv2 hk.2
          have hm : (#[] : Array Value) ++ (c.args.map a.eval) ++ (#[] : Array Value) = #[.int .i64 p, .int .i64 q] := by
            apply Array.ext'
            simp [hl]
          have hm' : (c.args.map a.eval) = #[.int .i64 p, .int .i64 q] := by
            apply Array.ext'
            simp [hl]
          refine same (.int .i64 (max p q)) ?_ (ok_int (by omega) (by omega))
          unfold execOp
          simp only [ho, resolve, hf, hm', Sem.run_bind, Sem.run_pure, Result.andThen_ok, invoke, builtin, run_max_int2]
          congr 3
          rw [Int.max_def]; split <;> split <;> omega
        · cases h
      · cases h
    · cases h
  · -- extract
    rename_i x i ho
    split at h
    · rename_i σ h1
      split at h
      · rename_i hk
        split at h
        case h_2 => cases h
        rename_i τ' hτ
        split at h
        · cases h
        rename_i h6
        injection h with h
        subst h
        obtain ⟨vs, hv, hvs⟩ := of_ok_tup (absX_sound hG h1) hk
        have hget : ∀ (ts : List Ty) (vs : List Value) (i : Nat), oks R X w ts vs → ts[i]? = some τ' → ∃ v, vs[i]? = some v ∧ τ'.ok0 R X w v := by
          intro ts
          induction ts with
          | nil => intro vs i _ hi; simp at hi
          | cons t ts ih =>
            intro vs i hh hi
            match vs, hh with
            | v :: vs, hh =>
              cases i with
              | zero => simp at hi; subst hi; exact ⟨v, rfl, hh.1⟩
              | succ i => exact ih vs i hh.2 (by simpa using hi)
        obtain ⟨v, hvi, hok⟩ := hget _ _ _ hvs hτ
        refine same v ?_ (by unfold Ty.ok; rw [if_neg h6]; exact hok)
        unfold execOp
        simp only [ho, hv, Instr.extract, Sem.run_bind]
        have : (vs.toArray)[i]? = some v := by simpa using hvi
        simp only [this, Sem.run_pure, Result.andThen_ok]
      · cases h
    · cases h
  · cases h
end
end Go.Proofs.Ytfkccdmjlopleaa
