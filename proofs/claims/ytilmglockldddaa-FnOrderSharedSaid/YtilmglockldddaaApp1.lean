/- Appends of one number, copies into rows, as steps; two boxes. -/
import Derived.Test.YtilmglockldddaaMatV4
import Derived.Deep.RegionHeld3
import Derived.BigRegion
import Derived.Lib.SliceRun
import Derived.Deep.AppendLies
import Derived.Deep.RegionLaw
import Derived.Laws.CopyOwn
import Derived.Laws.BitsLemmas
namespace Go.Proofs.Ytilmglockldddaa
open Go.RowKit

theorem wrap_in {x : Int} (h1 : -9223372036854775808 ≤ x) (h2 : x ≤ 9223372036854775807) : IntKind.i64.wrap x = x := by rw [IntKind.wrap_i64]; omega
theorem nest2 (w : World) (r c : Int) (s : Value) : ∀ W, W = (w.alloc (.cells #[.int .i64 r, .int .i64 c, s] 33)).alloc (.cells #[.int .i64 0, .int .i64 0, .slice none 0 0] 33) →
    Cell3 W w.heap.size (.int .i64 r) (.int .i64 c) s ∧ Cell3 W (w.heap.size + 1) (.int .i64 0) (.int .i64 0) (.slice none 0 0) ∧ Below w.heap.size w W ∧ W.heap.size = w.heap.size + 2 := by
  rintro W rfl
  have a := Cell3.new w (.int .i64 r) (.int .i64 c) s 33
  have b := Cell3.new (w.alloc (.cells #[.int .i64 r, .int .i64 c, s] 33)) (.int .i64 0) (.int .i64 0) (.slice none 0 0) 33
  simp only [World.size_alloc] at b
  exact ⟨a.alloc _, b, ((Below.refl _ _).alloc (Nat.le_refl _) _).alloc (by simp) _, by simp⟩

theorem wp_app1 {w : World} {o : Oper} {a : Act} {K : Act → World → Prop} {Q : Exit → Act → World → Prop} (s x : Operand)
    (ho : o.op = .call { callee := .builtin .append, args := #[s, x], argTypes := #[22, 22] })
    (lo hi : Nat) (v : Value) (ys : List Int) (hsv : a.eval s = v) (hrow : Row w lo hi v ys) (g : Nat) (z : Int) (hx : a.eval x = .slice (some ⟨g, 0, none⟩) 1 1) (hz : w.cell? ⟨g, 0, none⟩ = some (.int .i64 z))
    (hn : ys.length ≤ 2000000) (hlo : lo ≤ w.heap.size)
    (h : ∀ v' w', Row w' lo w'.heap.size v' (ys ++ [z]) → w.grownBy w' v.ownBlock → (v'.ownBlock = v.ownBlock ∨ v'.ownBlock = some w.heap.size) → K (a.put o.dst v') w') : o.wp Try.prog a w K Q := by
  obtain ⟨i0, hi0, hz0, hz1, hz2⟩ := info_parts info_int
  have hcells : ∀ j u, [Value.int .i64 z][j]? = some u → w.cell? ((⟨g, 0, none⟩ : Addr).add j) = some u := by
    intro j u hj
    match j, hj with
    | 0, hj => simp at hj; subst hj; simpa [Addr.add] using hz
  obtain ⟨v', w', hrun, h2, h3, _, h5⟩ := run_append_own_at (P := Try.prog) w lo 22 o.type 3 i0 (.int .i64 0) 1 8 Try.underlying22 hi0 hz0 hz1 hz2 rfl (by decide) v ys.length _ hrow.1 ⟨g, 0, none⟩ 1 1 [.int .i64 z] rfl hcells (by intro u hu; simp at hu; subst hu; rfl) (by simp only [maxLen]; omega) (by omega) hlo
  unfold Oper.wp execOp
  simp only [ho, resolve, invoke, builtin, Sem.run_bind, Sem.run_pure, Result.andThen_ok, List.map_toArray, List.map_cons, List.map_nil, hsv, hx, hrun]
  exact h v' w' ⟨by simpa using h2, fun g hg => (h2.lt g hg).2⟩ h3 h5

/-- append of one number, at a step of a region that draws its order. -/
theorem step_app1 {w : World} {ops : Array Oper} {o : Oper} {a : Act} {K : Act → World → Prop} {Q : Exit → Act → World → Prop} {E : Prop} (hgd : o.guard = none) (s x : Operand)
    (ho : o.op = .call { callee := .builtin .append, args := #[s, x], argTypes := #[22, 22] })
    (lo hi : Nat) (v : Value) (ys : List Int) (m : Nat) (hsv : a.eval s = v) (hrow : Row w lo hi v ys) (g : Nat) (z : Int) (hx : a.eval x = .slice (some ⟨g, 0, none⟩) 1 1) (hz : w.cell? ⟨g, 0, none⟩ = some (.int .i64 z))
    (hm : ys.length = m) (hn : m ≤ 2000000) (hlo : lo ≤ w.heap.size)
    (h : ∀ g' cap w', Row w' lo w'.heap.size (.slice (some ⟨g', 0, none⟩) (m + 1) cap) (ys ++ [z]) → w.grownBy w' v.ownBlock → (v.ownBlock = some g' ∨ g' = w.heap.size) → g' < w'.heap.size → K (a.put o.dst (.slice (some ⟨g', 0, none⟩) (m + 1) cap)) w') :
    if Region.wanted o (yielded ops a.tmps) = true then Oper.wp Try.prog o a w K Q else E := by
  subst hm
  obtain ⟨i0, hi0, hz0, hz1, hz2⟩ := info_parts info_int
  refine step_append_lies w hgd s x 22 ho lo 3 i0 (.int .i64 0) 1 8 Try.underlying22 hi0 hz0 hz1 hz2 rfl (by decide) v ys.length _ hsv hrow.1 ⟨g, 0, none⟩ 1 1 [.int .i64 z] hx rfl ?_ (by intro u hu; simp at hu; subst hu; rfl) (by omega) (by simp only [maxLen]; omega) (by omega) hlo w.heap.size rfl ?_
  · intro j u hj
    match j, hj with
    | 0, hj => simp at hj; subst hj; simpa [Addr.add] using hz
  · intro g' cap w' h1 h2 h3 h4
    refine h g' cap w' ⟨by simpa using h1, fun g hg => (h1.lt g hg).2⟩ h2 h3 h4

/-- copy of a row of numbers into a row of the call's own. -/
theorem wp_copyR {w : World} {o : Oper} {a : Act} {K : Act → World → Prop} {Q : Exit → Act → World → Prop} (d s : Operand)
    (ho : o.op = .call { callee := .builtin .copy, args := #[d, s], argTypes := #[22, 22] })
    (lo hi g off n c dl dc m sc : Nat) (ys xs : List Int) (ad : Addr) (hd : a.eval d = .slice (some ⟨g, off, none⟩) dl dc) (hs : a.eval s = .slice (some ad) m sc)
    (hrow : Row w lo hi (.slice (some ⟨g, 0, none⟩) n c) ys) (hx : xs.length = m) (hsrc : ∀ j, j < m → w.cell? (ad.add j) = some (.int .i64 (xs.getD j 0))) (hm : m ≤ dl) (hfit : off + m ≤ ys.length)
    (h : ∀ w', Row w' lo hi (.slice (some ⟨g, 0, none⟩) n c) (splice ys off xs) → w.grownBy w' (some g) → K (a.put o.dst (goInt m)) w') : o.wp Try.prog a w K Q := by
  obtain ⟨i0, hi0, hz0, hz1, hz2⟩ := info_parts info_int
  have hsz : (Try.prog.info? 3).map (·.size) = some 1 := by rw [hi0]; simpa using hz1
  obtain ⟨rfl, _⟩ := hrow.sl_of
  obtain ⟨⟨hl, hr⟩, hb⟩ := hrow
  rcases hr with ⟨hv, _⟩ | ⟨g', cap, cur, hv, hlo, hg, hnc, hcm, hcs, htk⟩
  · cases hv
  · injection hv with h1 h2 h3
    injection h1 with h1
    injection h1 with h1
    subst h1 h3
    have hcl : (xs.map (Value.int .i64)).length = m := by rw [List.length_map, hx]
    have hcur : off + (xs.map (Value.int .i64)).length ≤ cur.size := by rw [hcl, hcs]; omega
    have hrun := run_copy_row (P := Try.prog) w 22 22 o.type 3 g off dl dc ad m sc cur 3 (xs.map (Value.int .i64)) Try.underlying22 hsz hg (by rw [hcl]; exact (Nat.min_eq_left hm).symm) (fun j v hj => by
        rw [List.getElem?_map] at hj
        cases hxj : xs[j]? with
        | none => rw [hxj] at hj; simp at hj
        | some z =>
          rw [hxj] at hj
          simp at hj
          subst hj
          have hlt := (List.getElem?_eq_some_iff.1 hxj).1
          rw [hsrc j (by omega)]
          simp [List.getD_eq_getElem?_getD, hxj]) hcur (by intro v hv; obtain ⟨z, _, rfl⟩ := List.mem_map.1 hv; rfl)
    unfold Oper.wp execOp
    simp only [ho, resolve, invoke, builtin, Sem.run_bind, Sem.run_pure, Result.andThen_ok, List.map_toArray, List.map_cons, List.map_nil, hd, hs, hrun, hcl]
    refine h _ ⟨⟨?_, .inr ⟨g, c, _, by rw [length_splice _ _ _ (by omega)], hlo, setRow_heap w g _ _ _ _ hg, ?_, hcm, ?_, ?_⟩⟩, hb⟩ ⟨rfl, rfl, rfl, by simp [World.setRow], fun k _ hk => setRow_other w g k _ (fun e => hk (by rw [e]))⟩
    · simp
    · rw [length_splice _ _ _ (by omega)]; exact hnc
    · simp only [List.size_toArray, List.length_append, List.length_take, List.length_drop, Array.length_toList]
      omega
    · rw [length_splice _ _ _ (by omega)]
      rw [Nat.mul_one] at htk hcs ⊢
      show ((cur.toList.take off ++ xs.map (Value.int .i64)) ++ cur.toList.drop (off + m)).take ys.length = (splice ys off xs).map (Value.int .i64)
      have e1 : cur.toList.take off = (ys.map (Value.int .i64)).take off := by rw [← htk, List.take_take, Nat.min_eq_left (by omega)]
      have e2 : (cur.toList.drop (off + m)).take (ys.length - (off + m)) = (ys.map (Value.int .i64)).drop (off + m) := by rw [← htk, List.drop_take]
      have e3 : ((ys.map (Value.int .i64)).take off ++ xs.map (Value.int .i64)).length = off + m := by rw [List.length_append, List.length_take, List.length_map, List.length_map]; omega
      unfold splice
      rw [e1, List.take_append, e3, e2, List.take_of_length_le (by omega), List.map_append, List.map_append, List.map_take, List.map_drop, List.append_assoc, hx]
theorem step_copyR {w : World} {ops : Array Oper} {o : Oper} {a : Act} {K : Act → World → Prop} {Q : Exit → Act → World → Prop} {E : Prop} (hgd : o.guard = none) (d s : Operand)
    (ho : o.op = .call { callee := .builtin .copy, args := #[d, s], argTypes := #[22, 22] })
    (lo hi g off n c dl dc m sc : Nat) (ys xs : List Int) (ad : Addr) (hd : a.eval d = .slice (some ⟨g, off, none⟩) dl dc) (hs : a.eval s = .slice (some ad) m sc)
    (hrow : Row w lo hi (.slice (some ⟨g, 0, none⟩) n c) ys) (hx : xs.length = m) (hsrc : ∀ j, j < m → w.cell? (ad.add j) = some (.int .i64 (xs.getD j 0))) (hm : m ≤ dl) (hfit : off + m ≤ ys.length)
    (h : ∀ w', Row w' lo hi (.slice (some ⟨g, 0, none⟩) n c) (splice ys off xs) → w.grownBy w' (some g) → K (a.put o.dst (goInt m)) w') :
    if Region.wanted o (yielded ops a.tmps) = true then Oper.wp Try.prog o a w K Q else E := by
  have hw : Region.wanted o (yielded ops a.tmps) = true := by simp [Region.wanted, hgd]
  rw [if_pos hw]
  exact wp_copyR d s ho lo hi g off n c dl dc m sc ys xs ad hd hs hrow hx hsrc hm hfit h
end Go.Proofs.Ytilmglockldddaa
