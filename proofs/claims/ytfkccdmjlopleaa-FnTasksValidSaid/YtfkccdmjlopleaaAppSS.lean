/- append of a whole list of lists' headers onto a row of headers of the call's own. -/
import Derived.Test.YtfkccdmjlopleaaDrawC3
namespace Go.Proofs.Ytfkccdmjlopleaa
open Go.RowKit

/-- Headers that read as lists of numbers, below block B. -/
def Hdr (w : World) (B : Nat) (us : List Value) (zss : List (List Int)) : Prop :=
  us.length = zss.length ∧ ∀ j (hj : j < us.length), ∃ A' c', us[j] = .slice A' (at2 zss j).length c' ∧ (at2 zss j).length ≤ c' ∧ c' ≤ maxLen ∧ Sl w B A' (at2 zss j)
theorem Hdr.below {w w' : World} {B B' : Nat} {us : List Value} {zss : List (List Int)} (h : Hdr w B us zss) (hb : Below B' w w') (hB : B ≤ B') : Hdr w' B us zss :=
  ⟨h.1, fun j hj => by obtain ⟨A', c', h1, h2, h3, h4⟩ := h.2 j hj; exact ⟨A', c', h1, h2, h3, h4.below hb hB⟩⟩
theorem Hdr.more {w : World} {B B' : Nat} {us : List Value} {zss : List (List Int)} (h : Hdr w B us zss) (hB : B ≤ B') : Hdr w B' us zss :=
  ⟨h.1, fun j hj => by obtain ⟨A', c', h1, h2, h3, h4⟩ := h.2 j hj; exact ⟨A', c', h1, h2, h3, h4.more hB⟩⟩
theorem Hdr.snoc {w : World} {B : Nat} {us : List Value} {zss : List (List Int)} (h : Hdr w B us zss) {A : Option Addr} {c : Nat} {zs : List Int} (h1 : zs.length ≤ c) (h2 : c ≤ maxLen) (h3 : Sl w B A zs) : Hdr w B (us ++ [.slice A zs.length c]) (zss ++ [zs]) := by
  have hl := h.1
  refine ⟨by simp [hl], fun j hj => ?_⟩
  by_cases e : j < us.length
  · have h4 := h.2 j e
    rw [List.getElem_append_left e]
    rw [show at2 (zss ++ [zs]) j = at2 zss j by unfold at2; simp [List.getElem?_append, show j < zss.length by omega]]
    exact h4
  · have ej : j = us.length := by simp at hj; omega
    subst ej
    rw [show (us ++ [Value.slice A zs.length c])[us.length]'hj = .slice A zs.length c by simp]
    rw [show at2 (zss ++ [zs]) us.length = zs by unfold at2; simp [hl]]
    exact ⟨A, c, rfl, h1, h2, h3⟩
theorem Hdr.one {w : World} {B : Nat} {us : List Value} {zss : List (List Int)} (h : Hdr w B us zss) : ∀ u ∈ us, u.oneCell' = true := by
  intro u hu
  obtain ⟨j, hj, rfl⟩ := List.mem_iff_getElem.1 hu
  obtain ⟨A', c', h1, _⟩ := h.2 j hj
  rw [h1]
  rfl
theorem Hdr.ss {w : World} {B lo hi : Nat} {v : Value} {us : List Value} {zss : List (List Int)} (h : Hdr w B us zss) (hG : GRow w lo hi 29 v us) (hh : hi ≤ B) : ∃ A c, v = .slice A zss.length c ∧ zss.length ≤ c ∧ c ≤ maxLen ∧ SS w B A zss := by
  obtain ⟨A, cc, rfl, h1, h2⟩ := hG.form
  have hl := h.1
  refine ⟨A, cc, by rw [hl], by omega, h2, ?_⟩
  rcases Nat.eq_zero_or_pos zss.length with h0 | h0
  · have : zss = [] := List.eq_nil_of_length_eq_zero h0
    subst this
    exact SS.empty _ _ _
  · obtain ⟨g, rfl, hg1, hg2, _, _⟩ := hG.cell_ (j := 0) (by omega)
    refine ⟨g, 0, fun _ => ⟨rfl, by omega⟩, fun j hj => ?_⟩
    have hj' : j < us.length := by omega
    obtain ⟨g', hg', _, _, hc, _⟩ := hG.cell_ hj'
    cases hg'
    obtain ⟨A', c', he, h3, h4, h5⟩ := h.2 j hj'
    exact ⟨A', c', by rw [Nat.zero_add, hc, he], h3, h4, h5⟩
/-- The headers of a slice that reads as lists. -/
theorem SS.hdrs {w : World} {B : Nat} {ad : Addr} {zss : List (List Int)} (h : SS w B (some ad) zss) : ∃ us, Hdr w B us zss ∧ ∀ j u, us[j]? = some u → w.cell? (ad.add j) = some u := by
  obtain ⟨b, off, h1, h2⟩ := h
  have each : ∀ j, ∃ u : Value, j < zss.length → w.cell? ⟨b, off + j, none⟩ = some u ∧ ∃ A' c', u = .slice A' (at2 zss j).length c' ∧ (at2 zss j).length ≤ c' ∧ c' ≤ maxLen ∧ Sl w B A' (at2 zss j) := fun j => by
    by_cases hj : j < zss.length
    · obtain ⟨A', c', h3, h4, h5, h6⟩ := h2 j hj
      exact ⟨_, fun _ => ⟨h3, A', c', rfl, h4, h5, h6⟩⟩
    · exact ⟨undef, fun h => absurd h hj⟩
  obtain ⟨f, hf⟩ := Classical.axiomOfChoice each
  refine ⟨(List.range zss.length).map f, ⟨by simp, fun j hj => ?_⟩, fun j u hu => ?_⟩
  · have hj' : j < zss.length := by simpa using hj
    rw [List.getElem_map, List.getElem_range]
    exact (hf j hj').2
  · have hj : j < zss.length := by
      rcases Nat.lt_or_ge j zss.length with h | h
      · exact h
      · rw [List.getElem?_eq_none (by simpa using h)] at hu; cases hu
    rw [List.getElem?_map, List.getElem?_range hj] at hu
    simp at hu
    subst hu
    obtain ⟨e, _⟩ := h1 (by omega)
    injection e with e
    subst e
    rw [add_at]
    exact (hf j hj).1

theorem run_append_noneV (w : World) (ty : TypeId) (lo hi : Nat) (v : Value) (vs : List Value) (hrow : GRow w lo hi 29 v vs) (c : Nat) : (Builtin.append_ #[22, 22] ty #[v, .slice none 0 c]).run Try.prog w = .ok v w := by
  obtain ⟨i, hi0, _, hz1, _⟩ := info_parts info_ints
  rcases hrow.1.2 with ⟨rfl, hn⟩ | ⟨g, cap, cur, rfl, _, _, hnc, _⟩
  · simp [Builtin.append_, run_underlying Try.underlying22, sizeOf, typeInfo, hi0, hz1, Builtin.lenOf, Builtin.firstCells]
  · simp [Builtin.append_, run_underlying Try.underlying22, sizeOf, typeInfo, hi0, hz1, Builtin.lenOf, Builtin.firstCells, hnc, storeCells]
theorem wpList_appSS {w : World} {ops : Array Oper} {rest : List Oper} {o : Oper} {a : Act} {Q : Exit → Act → World → Prop} (hw : o.guard = none) (s x : Operand)
    (ho : o.op = .call { callee := .builtin .append, args := #[s, x], argTypes := #[22, 22] })
    (lo hi : Nat) (v : Value) (vs : List Value) (hsv : a.eval s = v) (hrow : GRow w lo hi 29 v vs) (B : Nat) (A : Option Addr) (c : Nat) (zss : List (List Int)) (hx : a.eval x = .slice A zss.length c) (hss : SS w B A zss)
    (hn : vs.length + zss.length ≤ 2000000) (hlo : lo ≤ w.heap.size) (hhi : hi ≤ w.heap.size)
    (h : ∀ v' w' us, Hdr w B us zss → GRow w' lo w'.heap.size 29 v' (vs ++ us) → w.grownBy w' v.ownBlock → (v'.ownBlock = v.ownBlock ∨ v'.ownBlock = some w.heap.size) → wpList Try.prog ops Q rest (a.put o.dst v') w') : wpList Try.prog ops Q (o :: rest) a w := by
  cases A with
  | none =>
    have hz : zss.length = 0 := by
      rcases Nat.eq_zero_or_pos zss.length with h0 | h0
      · exact h0
      · obtain ⟨b, off, h1, _⟩ := hss; have := (h1 h0).1; cases this
    have hnil : zss = [] := List.eq_nil_of_length_eq_zero hz
    subst hnil
    refine wpList_plain hw fun K hK => ?_
    have hr := run_append_noneV w o.type lo hi v vs hrow c
    unfold Oper.wp execOp
    simp only [ho, resolve, invoke, builtin, Sem.run_bind, Sem.run_pure, Result.andThen_ok, List.map_toArray, List.map_cons, List.map_nil, hsv, hx, List.length_nil, hr]
    exact hK _ _ (h v w [] ⟨rfl, fun j hj => absurd hj (by simp)⟩ (by rw [List.append_nil]; exact hrow.wider (Nat.le_refl _) hhi) (World.grownBy.refl w _) (.inl rfl))
  | some ad =>
    obtain ⟨us, hu, hc⟩ := hss.hdrs
    have hul := hu.1
    exact wpList_appV hw s x ho lo hi v vs hsv hrow ad zss.length c us hx hul hc hu.one (by omega) hlo (fun v' w' h1 h2 h3 => h v' w' us hu h1 h2 h3)
end Go.Proofs.Ytfkccdmjlopleaa
