/- The reckoning over the slots' kinds is sound: an operation whose operands are of their kinds yields a value of the kind that abs tells. -/
import Derived.Test.YtfkccdmjlopleaaAbs
namespace Go.Proofs.Ytfkccdmjlopleaa
open Go.RowKit

/-- What the program's tables say of []int and int. -/
structure IntTypes (P : Program) (tS tI : TypeId) : Prop where
  sl : P.underlying tS = some (.slice tI)
  el : P.underlying tI = some (.int .i64)
  fld : ∀ t, matT t = true → ∀ g w, (Instr.fieldAt t (.pointer (some ⟨g, 0, none⟩)) 2).run P w = .ok (.pointer (some ⟨g, 2, none⟩)) w
  ld : ∀ t, matT t = true → ∀ g w x y z, w.cell? ⟨g, 0, none⟩ = some x → w.cell? ⟨g, 1, none⟩ = some y → w.cell? ⟨g, 2, none⟩ = some z → (Instr.loadAt t (.pointer (some ⟨g, 0, none⟩))).run P w = .ok (.agg #[x, y, z]) w
  ld6 : ∀ t, smatT t = true → ∀ g w x0 x1 x2 x3 x4 x5, w.cell? ⟨g, 0, none⟩ = some x0 → w.cell? ⟨g, 1, none⟩ = some x1 → w.cell? ⟨g, 2, none⟩ = some x2 → w.cell? ⟨g, 3, none⟩ = some x3 → w.cell? ⟨g, 4, none⟩ = some x4 → w.cell? ⟨g, 5, none⟩ = some x5 → (Instr.loadAt t (.pointer (some ⟨g, 0, none⟩))).run P w = .ok (.agg #[x0, x1, x2, x3, x4, x5]) w
  info : (P.info? tI).map (fun i => (i.zero, i.size, i.bytes)) = some (some (.int .i64 0), 1, 8)

section
variable {P : Program} {R : Nat} {X : Nat → World → Value → Prop} {T : Nat → List Ty} {G : Tmp → Option Ty} {a : Act} {w : World}

theorem ok_int {z lo hi : Int} (h1 : lo ≤ z) (h2 : z ≤ hi) : (Ty.int lo hi).ok R X T w (.int .i64 z) := by
  simp only [Ty.ok, Ty.int, Ty.ok0]
  simp
  exact ⟨h1, h2⟩
theorem of_ok_int {τ : Ty} {v : Value} (h : τ.ok R X T w v) (hk : τ.k = 3) : ∃ z, v = .int .i64 z ∧ τ.lo ≤ z ∧ z ≤ τ.hi := by
  simp only [Ty.ok, Ty.ok0, hk] at h
  simpa using h
theorem of_ok_rd {τ : Ty} {v : Value} (h : τ.ok R X T w v) (hk : τ.k = 1) : v = .pointer (some ⟨R, 0, none⟩) := by
  simp only [Ty.ok, Ty.ok0, hk] at h
  simpa using h
theorem of_ok_sl {τ : Ty} {v : Value} (h : τ.ok R X T w v) (hk : τ.k = 4) : ∃ g, v = .slice (some ⟨g, 0, none⟩) τ.n τ.n ∧ R < g ∧ ∀ j, j < τ.n → ∃ z, w.cell? ⟨g, j, none⟩ = some (.int .i64 z) ∧ τ.lo ≤ z ∧ z ≤ τ.hi := by
  simp only [Ty.ok, Ty.ok0, hk] at h
  simpa using h
theorem of_ok_ptr {τ : Ty} {v : Value} (h : τ.ok R X T w v) (hk : τ.k = 5) : ∃ g o z, v = .pointer (some ⟨g, o, none⟩) ∧ R < g ∧ w.cell? ⟨g, o, none⟩ = some (.int .i64 z) ∧ τ.lo ≤ z ∧ z ≤ τ.hi := by
  simp only [Ty.ok, Ty.ok0, hk] at h
  simpa using h
theorem of_ok_st {τ : Ty} {v : Value} (h : τ.ok R X T w v) (hk : τ.k = 7) : ∃ g u, v = .pointer (some ⟨g, 0, none⟩) ∧ R < g ∧ w.cell? ⟨g, 2, none⟩ = some u ∧ X τ.n w u := by
  simp only [Ty.ok, Ty.ok0, hk] at h
  simpa using h
theorem of_ok_fl {τ : Ty} {v : Value} (h : τ.ok R X T w v) (hk : τ.k = 8) : ∃ g u, v = .pointer (some ⟨g, 2, none⟩) ∧ R < g ∧ w.cell? ⟨g, 2, none⟩ = some u ∧ X τ.n w u := by
  simp only [Ty.ok, Ty.ok0, hk] at h
  simpa using h
theorem of_ok_ag {τ : Ty} {v : Value} (h : τ.ok R X T w v) (hk : τ.k = 9 ∧ ¬ τ.lo = 1) : ∃ g x y z, v = .pointer (some ⟨g, 0, none⟩) ∧ R < g ∧ w.cell? ⟨g, 0, none⟩ = some x ∧ w.cell? ⟨g, 1, none⟩ = some y ∧ w.cell? ⟨g, 2, none⟩ = some z ∧ X τ.n w (.agg #[x, y, z]) := by
  simp only [Ty.ok, Ty.ok0, hk.1, hk.2] at h
  simpa using h
theorem of_ok_ag6 {τ : Ty} {v : Value} (h : τ.ok R X T w v) (hk : τ.k = 9 ∧ τ.lo = 1) : ∃ g x0 x1 x2 x3 x4 x5, v = .pointer (some ⟨g, 0, none⟩) ∧ R < g ∧ w.cell? ⟨g, 0, none⟩ = some x0 ∧ w.cell? ⟨g, 1, none⟩ = some x1 ∧ w.cell? ⟨g, 2, none⟩ = some x2 ∧ w.cell? ⟨g, 3, none⟩ = some x3 ∧ w.cell? ⟨g, 4, none⟩ = some x4 ∧ w.cell? ⟨g, 5, none⟩ = some x5 ∧ X τ.n w (.agg #[x0, x1, x2, x3, x4, x5]) := by
  simp only [Ty.ok, Ty.ok0, hk.1, hk.2] at h
  simpa using h
theorem of_ok_tup {τ : Ty} {v : Value} (h : τ.ok R X T w v) (hk : τ.k = 6) : ∃ vs, v = .tuple vs.toArray ∧ oks R X w (T τ.n) vs := by
  simp only [Ty.ok, hk] at h
  simpa using h

theorem absX_sound (hG : ∀ t σ, G t = some σ → σ.ok R X T w (a.tmps.getD t undef)) {x : Operand} {τ : Ty} (h : absX G x = some τ) : τ.ok R X T w (a.eval x) := by
  unfold absX at h
  split at h
  · exact hG _ _ h
  · injection h with h; subst h; exact ok_int (Int.le_refl _) (Int.le_refl _)
  · injection h with h; subst h
    simp only [Ty.ok, Ty.ok0]
    exact ⟨_, rfl⟩
  · cases h

/-- The kinds of the arguments, one by one. -/
def okArgs (R : Nat) (X : Nat → World → Value → Prop) (T : Nat → List Ty) (w : World) : List Ty → List Value → Prop
  | [], [] => True
  | τ :: ts, v :: vs => τ.ok R X T w v ∧ okArgs R X T w ts vs
  | _, _ => False

theorem absArgs_sound (hG : ∀ t σ, G t = some σ → σ.ok R X T w (a.tmps.getD t undef)) : ∀ {xs : List Operand} {ts : List Ty}, absArgs G xs = some ts → okArgs R X T w ts (xs.map a.eval)
  | [], ts, h => by injection h with h; subst h; trivial
  | x :: xs, ts, h => by
    unfold absArgs at h
    split at h
    · rename_i τ σs h1 h2
      injection h with h
      subst h
      exact ⟨absX_sound hG h1, absArgs_sound hG h2⟩
    · cases h

theorem cells_int (z : Int) : (Value.int .i64 z).cells = #[.int .i64 z] := rfl

/-- fill over one-cell numbers: every cell that is filled, and every one that was there before the first, is a number in the range. -/
theorem fill_sound (hG : ∀ t σ, G t = some σ → σ.ok R X T w (a.tmps.getD t undef)) : ∀ (parts : List (Nat × Operand)) (i : Nat) (lo hi lo' hi' : Int) (cells : Array Value), absParts G i parts = some (lo, hi) → lo' ≤ lo → hi ≤ hi' →
    cells.size = i + parts.length → (∀ j, j < i → ∃ z, cells[j]? = some (.int .i64 z) ∧ lo' ≤ z ∧ z ≤ hi') →
    ∃ cs, Instr.fill (fun i => some (i * 1, 1)) cells (parts.map fun p => (p.1, a.eval p.2)) = some cs ∧ cs.size = i + parts.length ∧ ∀ j, j < i + parts.length → ∃ z, cs[j]? = some (.int .i64 z) ∧ lo' ≤ z ∧ z ≤ hi'
  | [], i, lo, hi, lo', hi', cells, h, _, _, _, _ => by cases h
  | (j, x) :: rest, i, lo, hi, lo', hi', cells, h, h1, h2, hs, hc => by
    unfold absParts at h
    split at h
    · rename_i σ hσ
      split at h
      · rename_i hk
        obtain ⟨hk, rfl⟩ := hk
        obtain ⟨z, hz, hz1, hz2⟩ := of_ok_int (absX_sound hG hσ) hk
        have hz' : a.eval x = .int .i64 z := hz
        have step : Instr.fill (fun i => some (i * 1, 1)) cells (((j, x) :: rest).map fun p => (p.1, a.eval p.2)) = Instr.fill (fun i => some (i * 1, 1)) (cells.setIfInBounds j (.int .i64 z)) (rest.map fun p => (p.1, a.eval p.2)) := by
          have hlt : ¬ (j * 1 + 1 > cells.size) := by simp only [List.length_cons] at hs; omega
          simp only [List.map_cons, Instr.fill, hz', cells_int]
          simp
          intro hbad
          simp only [List.length_cons] at hs
          omega
        have hcell : ∀ lo'' hi'', lo'' ≤ σ.lo → σ.hi ≤ hi'' → (∀ j', j' < j → ∃ z, cells[j']? = some (.int .i64 z) ∧ lo'' ≤ z ∧ z ≤ hi'') → ∀ j', j' < j + 1 → ∃ z', (cells.setIfInBounds j (.int .i64 z))[j']? = some (.int .i64 z') ∧ lo'' ≤ z' ∧ z' ≤ hi'' := by
          intro lo'' hi'' g1 g2 g3 j' hj'
          by_cases e : j = j'
          · subst e
            refine ⟨z, ?_, by omega, by omega⟩
            rw [Array.getElem?_setIfInBounds_self_of_lt (by simp only [List.length_cons] at hs; omega)]
          · obtain ⟨z', e1, e2⟩ := g3 j' (by omega)
            exact ⟨z', by rw [Array.getElem?_setIfInBounds_ne e]; exact e1, e2⟩
        split at h
        · injection h with h
          simp only [Prod.mk.injEq] at h
          obtain ⟨rfl, rfl⟩ := h
          rw [step]
          refine ⟨_, rfl, by simpa using hs, ?_⟩
          simpa using hcell lo' hi' h1 h2 hc
        · rename_i y rest'
          split at h
          · rename_i b hb
            injection h with h
            simp only [Prod.mk.injEq] at h
            obtain ⟨rfl, rfl⟩ := h
            rw [step]
            obtain ⟨cs, e1, e2, e3⟩ := fill_sound hG (y :: rest') (j + 1) b.1 b.2 lo' hi' (cells.setIfInBounds j (.int .i64 z)) hb (by omega) (by omega) (by simp only [List.length_cons, Array.size_setIfInBounds] at hs ⊢; omega) (hcell lo' hi' (by omega) (by omega) hc)
            refine ⟨cs, e1, by simp only [List.length_cons] at e2 ⊢; omega, fun j' hj' => e3 j' (by simp only [List.length_cons] at hj' ⊢; omega)⟩
          · cases h
      · cases h
    · cases h
end
end Go.Proofs.Ytfkccdmjlopleaa
