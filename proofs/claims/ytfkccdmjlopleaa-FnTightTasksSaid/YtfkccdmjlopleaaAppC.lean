/- copy of a row of numbers into a row of the call's own: as many as the shorter one has. -/
import Derived.Test.YtfkccdmjlopleaaFnsC3
import Derived.Deep.RegionLaw
import Derived.Deep.RegionHeld3
import Derived.Laws.CopyOwn
import Derived.Lib.SliceRun
namespace Go.Proofs.Ytfkccdmjlopleaa
open Go.RowKit

/-- copy of a row of numbers into a row of the call's own. -/
theorem wp_copyM {w : World} {o : Oper} {a : Act} {K : Act → World → Prop} {Q : Exit → Act → World → Prop} (d s : Operand)
    (ho : o.op = .call { callee := .builtin .copy, args := #[d, s], argTypes := #[29, 29] })
    (lo hi g off n c dl dc sl sc m : Nat) (ys xs : List Int) (ad : Addr) (hd : a.eval d = .slice (some ⟨g, off, none⟩) dl dc) (hs : a.eval s = .slice (some ad) sl sc)
    (hrow : Row w lo hi (.slice (some ⟨g, 0, none⟩) n c) ys) (hx : xs.length = m) (hsrc : ∀ j, j < m → w.cell? (ad.add j) = some (.int .i64 (xs.getD j 0))) (hm : m = Nat.min sl dl) (hfit : off + m ≤ ys.length)
    (h : ∀ w', Row w' lo hi (.slice (some ⟨g, 0, none⟩) n c) (splice ys off xs) → w.grownBy w' (some g) → K (a.put o.dst (goInt m)) w') : o.wp Try.prog a w K Q := by
  obtain ⟨i0, hi0, hz0, hz1, hz2⟩ := info_parts info_int
  have hsz : (Try.prog.info? 3).map (·.size) = some 1 := by rw [hi0]; simpa using hz1
  obtain ⟨rfl, _⟩ := hrow.sl_of
  obtain ⟨⟨hl, hr⟩, hb⟩ := hrow
  rcases hr with ⟨hv, _⟩ | ⟨g', cap, cur, hv, hlo, hg, hnc, hcm, hcs, htk⟩
  · cases hv
  · injection hv with h1 h2 h3
    injection h1 with h1
    injection h1 with h1
    subst h1 h3
    have hcl : (xs.map (Value.int .i64)).length = m := by rw [List.length_map, hx]
    have hcur : off + (xs.map (Value.int .i64)).length ≤ cur.size := by rw [hcl, hcs]; omega
    have hrun := run_copy_row (P := Try.prog) w 29 29 o.type 3 g off dl dc ad sl sc cur 3 (xs.map (Value.int .i64)) Try.underlying29 hsz hg (by rw [hcl]; exact hm) (fun j v hj => by
        rw [List.getElem?_map] at hj
        cases hxj : xs[j]? with
        | none => rw [hxj] at hj; simp at hj
        | some z =>
          rw [hxj] at hj
          simp at hj
          subst hj
          have hlt := (List.getElem?_eq_some_iff.1 hxj).1
          rw [hsrc j (by omega)]
          simp [List.getD_eq_getElem?_getD, hxj]) hcur (by intro v hv; obtain ⟨z, _, rfl⟩ := List.mem_map.1 hv; rfl)
    unfold Oper.wp execOp
    simp only [ho, resolve, invoke, builtin, Sem.run_bind, Sem.run_pure, Result.andThen_ok, List.map_toArray, List.map_cons, List.map_nil, hd, hs, hrun, hcl]
    refine h _ ⟨⟨?_, .inr ⟨g, c, _, by rw [length_splice _ _ _ (by omega)], hlo, setRow_heap w g _ _ _ _ hg, ?_, hcm, ?_, ?_⟩⟩, hb⟩ ⟨rfl, rfl, rfl, by simp [World.setRow], fun k _ hk => setRow_other w g k _ (fun e => hk (by rw [e]))⟩
    · simp
    · rw [length_splice _ _ _ (by omega)]; exact hnc
    · simp only [List.size_toArray, List.length_append, List.length_take, List.length_drop, Array.length_toList]
      omega
    · rw [length_splice _ _ _ (by omega)]
      rw [Nat.mul_one] at htk hcs ⊢
      show ((cur.toList.take off ++ xs.map (Value.int .i64)) ++ cur.toList.drop (off + m)).take ys.length = (splice ys off xs).map (Value.int .i64)
      have e1 : cur.toList.take off = (ys.map (Value.int .i64)).take off := by rw [← htk, List.take_take, Nat.min_eq_left (by omega)]
      have e2 : (cur.toList.drop (off + m)).take (ys.length - (off + m)) = (ys.map (Value.int .i64)).drop (off + m) := by rw [← htk, List.drop_take]
      have e3 : ((ys.map (Value.int .i64)).take off ++ xs.map (Value.int .i64)).length = off + m := by rw [List.length_append, List.length_take, List.length_map, List.length_map]; omega
      unfold splice
      rw [e1, List.take_append, e3, e2, List.take_of_length_le (by omega), List.map_append, List.map_append, List.map_take, List.map_drop, List.append_assoc, hx]
theorem step_copyM {w : World} {ops : Array Oper} {o : Oper} {a : Act} {K : Act → World → Prop} {Q : Exit → Act → World → Prop} {E : Prop} (hgd : o.guard = none) (d s : Operand)
    (ho : o.op = .call { callee := .builtin .copy, args := #[d, s], argTypes := #[29, 29] })
    (lo hi g off n c dl dc sl sc m : Nat) (ys xs : List Int) (ad : Addr) (hd : a.eval d = .slice (some ⟨g, off, none⟩) dl dc) (hs : a.eval s = .slice (some ad) sl sc)
    (hrow : Row w lo hi (.slice (some ⟨g, 0, none⟩) n c) ys) (hx : xs.length = m) (hsrc : ∀ j, j < m → w.cell? (ad.add j) = some (.int .i64 (xs.getD j 0))) (hm : m = Nat.min sl dl) (hfit : off + m ≤ ys.length)
    (h : ∀ w', Row w' lo hi (.slice (some ⟨g, 0, none⟩) n c) (splice ys off xs) → w.grownBy w' (some g) → K (a.put o.dst (goInt m)) w') :
    if Region.wanted o (yielded ops a.tmps) = true then Oper.wp Try.prog o a w K Q else E := by
  have hw : Region.wanted o (yielded ops a.tmps) = true := by simp [Region.wanted, hgd]
  rw [if_pos hw]
  exact wp_copyM d s ho lo hi g off n c dl dc sl sc m ys xs ad hd hs hrow hx hsrc hm hfit h
end Go.Proofs.Ytfkccdmjlopleaa
