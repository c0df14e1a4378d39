/- The law of regions of the drawing functions where the store of a matrix into the result floats. -/
import Derived.Test.YtdebnbgjnmoleaaAbsSt
import Derived.Test.YtdebnbgjnmoleaaDrawM
namespace Go.Proofs.Ytdebnbgjnmoleaa
open Go.RowKit

/-- A matrix stored at block g. -/
def put3 (g : Nat) (v0 v1 v2 : Value) (w : World) : World := ((w.setCell ⟨g, 0, none⟩ v0).setCell ⟨g, 1, none⟩ v1).setCell ⟨g, 2, none⟩ v2
theorem setCell_congr {w w' : World} {k : Nat} (h : w'.heap[k]? = w.heap[k]?) (a : Addr) (v : Value) : (w'.setCell a v).heap[k]? = (w.setCell a v).heap[k]? := by
  simp [World.setCell, Array.getElem?_modify, h]
theorem put3_grown (g : Nat) (v0 v1 v2 : Value) (w : World) : w.grownBy (put3 g v0 v1 v2 w) (some g) := gtrans (gtrans (set_grown w g 0 v0) (set_grown _ g 1 v1)) (set_grown _ g 2 v2)
theorem put3_both {g R : Nat} (v0 v1 v2 : Value) {w w' : World} (h : w.grownBy w' (some R)) : (put3 g v0 v1 v2 w).grownBy (put3 g v0 v1 v2 w') (some R) :=
  ⟨h.os, h.tape, h.output, by simpa [put3] using h.size, fun k hk hne => setCell_congr (setCell_congr (setCell_congr (h.block k (by simpa [put3] using hk) hne) _ _) _ _) _ _⟩
theorem Rd.put3 {w : World} {R N g : Nat} {x y : Int} {A : Option Addr} {m c : Nat} (h : Rd w R N) (k : Cell3 w g (.int .i64 x) (.int .i64 y) (.slice A m c)) (hne : g ≠ R) (v0 v1 v2 : Value) : Rd (put3 g v0 v1 v2 w) R N := by
  obtain ⟨A', n, c', p, h1, h2, hb, hc⟩ := h
  refine ⟨A', n, c', p, h1, h2, ?_, fun hn => ?_⟩
  · unfold Proofs.Ytdebnbgjnmoleaa.put3
    rw [heap_setCell_other _ _ _ _ (by simpa using hne.symm), heap_setCell_other _ _ _ _ (by simpa using hne.symm), heap_setCell_other _ _ _ _ (by simpa using hne.symm)]
    exact hb
  · obtain ⟨b, off, hA, hlt, hcell⟩ := hc hn
    refine ⟨b, off, hA, hlt, fun j hj => ?_⟩
    obtain ⟨z, z0, z1, hz⟩ := hcell j hj
    refine ⟨z, z0, z1, ?_⟩
    unfold Proofs.Ytdebnbgjnmoleaa.put3
    rw [World.cell?_setCell_other _ _ _ _ (fun e => by rw [← e, k.c2] at hz; simp at hz), World.cell?_setCell_other _ _ _ _ (fun e => by rw [← e, k.c1] at hz; simp at hz), World.cell?_setCell_other _ _ _ _ (fun e => by rw [← e, k.c0] at hz; simp at hz)]
    exact hz
theorem run_put3 {w : World} {g m cp : Nat} {x y z : Value} {r c : Int} {A : Option Addr} (k : Cell3 w g x y z) : (Instr.storeAt 28 (.pointer (some ⟨g, 0, none⟩)) (matV r c (.slice A m cp))).run Try.prog w = .ok () (put3 g (.int .i64 r) (.int .i64 c) (.slice A m cp) w) := by
  obtain ⟨c0, c1, c2, f0, f1, f2, lt⟩ := k
  unfold put3
  go_simp
/-- What is told of an operation's result. -/
theorem outsOk_get {outs : List (Tmp × Ty)} {x : Tmp} {σ : Ty} (hx : envOf outs x = some σ) : ∀ {l : List Oper} {tys : List Ty} {i : Nat} {o : Oper}, outsOk outs l tys = true → l[i]? = some o → o.dst = some x → ∃ τ, tys[i]? = some τ ∧ fits τ σ = true
  | [], _, i, o, _, h, _ => by simp at h
  | _ :: _, [], _, _, h, _, _ => by simp [outsOk] at h
  | p :: l, τ :: ts, 0, o, h, hi, hd => by
    simp only [outsOk, Bool.and_eq_true] at h
    simp only [List.getElem?_cons_zero, Option.some.injEq] at hi
    subst hi
    have h1 := h.1
    rw [hd, Option.bind_some, hx] at h1
    exact ⟨τ, rfl, h1⟩
  | p :: l, τ :: ts, i + 1, o, h, hi, hd => by
    simp only [outsOk, Bool.and_eq_true] at h
    obtain ⟨τ', h1, h2⟩ := outsOk_get (l := l) (tys := ts) (i := i) hx h.2 (by simpa using hi) hd
    exact ⟨τ', by simpa using h1, h2⟩

theorem draw_region_store {R B0 N : Nat} {E : Nat → Value → Prop} (L c M : Nat) (tbl : List (FuncId × (List Ty → Option Ty))) (htbl : AllSound L c tbl) (envL outs : List (Tmp × Ty)) (hB0 : B0 ≤ R) (n : Nat) {id : Nat} {l : List Oper} {a : Act} {w : World} {Q : Exit → Act → World → Prop}
    (hB : (regionOk 22 3 tbl envL outs (l.take n) && (onceB (l.take n) && fitB a.tmps.size (l.take n) && decide (l.length ≤ 1000) && decide (n + 1 < l.length) && Region.sinkB .any l.toArray (n + 1) && Region.chainB .any l.toArray (n + 1) &&
      Region.seqB .any l.toArray (l.length - (n + 1)) (n + 1) (Array.replicate (n + 1) true ++ Array.replicate (l.length - (n + 1)) false)) && decide (c * (n + 1) ≤ M)) = true)
    (hN : N + c * 1000 ≤ L) (hR : Rd w R N) (henv : EnvOk R B0 E w.drew a envL)
    {st ox : Oper} (p x ix k : Nat) (hst : l[n]? = some st) (ho : st.op = .store 28 (.tmp p) (.tmp x)) (hox : (l.take n)[ix]? = some ox)
    (hcl : (st.dst.isNone && st.guard.isNone && (st.after.toList.all fun e => !Region.binds .any e || decide (e.on < n)) && (st.after.toList.any fun e => Region.binds .any e && decide (e.on = ix)) && (l.take n).all (fun o => !(o.dst == some p))) = true) (hxd : ox.dst = some x)
    (hσ : envOf outs x = some (Ty.own (k + 1))) (r cc : Int) (A : Option Addr) (m cp : Nat) (hE : ∀ u, E k u → u = matV r cc (.slice A m cp))
    (g : Nat) (hgR : g < R) (hp : a.tmps.getD p undef = .pointer (some ⟨g, 0, none⟩)) {y0 y1 : Int} {yA : Option Addr} {ym yc : Nat} (K : Cell3 w g (.int .i64 y0) (.int .i64 y1) (.slice yA ym yc))
    (h : ∀ w', (put3 g (.int .i64 r) (.int .i64 cc) (.slice A m cp) w.drew).grownBy w' (some R) → Rd w' R (N + M) → Puts R B0 E outs w' (l.take n) a (fun a' => wpList Try.prog l.toArray Q (l.drop (n + 1)) a' w')) : (Code.region id l.toArray true).wp Try.prog Q a w := by
  rw [Bool.and_eq_true, Bool.and_eq_true] at hB
  obtain ⟨⟨h1, h2⟩, hM⟩ := hB
  have hM' := of_decide_eq_true hM
  simp only [Bool.and_eq_true, Option.isNone_iff_eq_none] at hcl
  obtain ⟨⟨⟨⟨hsd, hsg⟩, hsb⟩, hxe⟩, hpn⟩ := hcl
  unfold regionOk at h1
  split at h1
  · rename_i tys htys
    obtain ⟨τx, hτx, hfit⟩ := outsOk_get hσ h1 hox hxd
    have hKd : Cell3 w.drew g (.int .i64 y0) (.int .i64 y1) (.slice yA ym yc) := ⟨K.c0, K.c1, K.c2, K.f0, K.f1, K.f2, K.lt⟩
    refine wp_region_abs_store intTypes XD.keep (J := RdJ L c R N) RdJ.h1 RdJ.h2 RdJ.hR (sigOf_sound htbl hB0) (by kernel_rfl) n htys h2 (envOf_ok henv) ⟨hR.drew, hN⟩ hst hsd hsg hsb ix x hox hxd hτx hxe
      (put3 g (.int .i64 r) (.int .i64 cc) (.slice A m cp)) g (Nat.le_of_lt hgR) (XD.row fun b e => by cases e; exact Nat.le_of_lt hgR)
      (fun w' _ => ⟨put3_grown _ _ _ _ _, put3_both _ _ _ (by assumption)⟩) (fun k' w' hg hJ => ⟨((hJ.1.put3 (hKd.grown hg (by simp; omega)) (by omega) _ _ _)).more (Nat.add_le_add_left (Nat.mul_le_mul_left _ (Nat.le_succ _)) _), hJ.2⟩) ?_
      fun w' hg hJ => puts_all _ _ _ h1 (h w' hg (hJ.1.more (Nat.add_le_add_left hM' _)))
    intro a' w' hg hfr hok
    have hpt : a'.tmps.getD p undef = .pointer (some ⟨g, 0, none⟩) := by
      have e1 := hfr p fun o hm e => by
        have := List.all_eq_true.1 hpn o hm
        rw [e] at this
        simp at this
      rw [Array.getD_eq_getD_getElem?, ← e1, ← Array.getD_eq_getD_getElem?]
      exact hp
    have hv := hE _ (of_ok_own (fits_ok hfit hok))
    have hrun := run_put3 (r := r) (c := cc) (A := A) (m := m) (cp := cp) (hKd.grown hg (by simp; omega))
    have e1 : a'.eval (.tmp p) = .pointer (some ⟨g, 0, none⟩) := hpt
    have e2 : a'.eval (.tmp x) = matV r cc (.slice A m cp) := hv
    unfold execOp
    simp only [ho, e1, e2, Sem.run_bind, hrun, Result.andThen_ok, Sem.run_pure]
  · cases h1
end Go.Proofs.Ytdebnbgjnmoleaa
