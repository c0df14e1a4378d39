/- Words for lists of lists: a slice of slices that reads as lists of numbers; one in rows of the call's own. -/
import Derived.Test.YtfkccdmjlopleaaLists2
import Derived.Test.YtfkccdmjlopleaaCame
import Derived.Deep.Matrix
namespace Go.Proofs.Ytfkccdmjlopleaa
open Go.RowKit

/-- The list at k; empty behind the end. -/
def at2 (zss : List (List Int)) (k : Nat) : List Int := zss.getD k []
theorem at2_mem {zss : List (List Int)} {k : Nat} (hk : k < zss.length) : at2 zss k ∈ zss := by
  unfold at2
  rw [show zss.getD k [] = zss[k] by simp [hk]]
  exact List.getElem_mem hk
theorem take2_succ (zss : List (List Int)) (k : Nat) (hk : k < zss.length) : zss.take (k + 1) = zss.take k ++ [at2 zss k] := by
  unfold at2
  rw [List.take_add_one, List.getElem?_eq_getElem hk]; simp [hk]

/-- The slice at A, with zss.length headers, reads as the lists zss; all below block B. -/
def SS (w : World) (B : Nat) (A : Option Addr) (zss : List (List Int)) : Prop :=
  ∃ b off, (0 < zss.length → A = some ⟨b, off, none⟩ ∧ b < B) ∧ ∀ j, j < zss.length → ∃ A' c', w.cell? ⟨b, off + j, none⟩ = some (.slice A' (at2 zss j).length c') ∧ (at2 zss j).length ≤ c' ∧ c' ≤ maxLen ∧ Sl w B A' (at2 zss j)
theorem SS.keep {w w' : World} {B : Nat} {A : Option Addr} {zss : List (List Int)} (h : SS w B A zss) (hk : ∀ p : Addr, p.block < B → w'.cell? p = w.cell? p) : SS w' B A zss := by
  obtain ⟨b, off, h1, h2⟩ := h
  refine ⟨b, off, h1, fun j hj => ?_⟩
  obtain ⟨A', c', h3, h4, h5, h6⟩ := h2 j hj
  exact ⟨A', c', by rw [hk _ (h1 (by omega)).2]; exact h3, h4, h5, h6.keep hk⟩
theorem SS.below {w w' : World} {B B' : Nat} {A : Option Addr} {zss : List (List Int)} (h : SS w B A zss) (hb : Below B' w w') (hB : B ≤ B') : SS w' B A zss := h.keep fun _ hp => hb.cell (Nat.lt_of_lt_of_le hp hB)
theorem SS.more {w : World} {B B' : Nat} {A : Option Addr} {zss : List (List Int)} (h : SS w B A zss) (hB : B ≤ B') : SS w B' A zss := by
  obtain ⟨b, off, h1, h2⟩ := h
  refine ⟨b, off, fun hp => ⟨(h1 hp).1, Nat.lt_of_lt_of_le (h1 hp).2 hB⟩, fun j hj => ?_⟩
  obtain ⟨A', c', h3, h4, h5, h6⟩ := h2 j hj
  exact ⟨A', c', h3, h4, h5, h6.more hB⟩
theorem SS.at_ {w : World} {B : Nat} {A : Option Addr} {zss : List (List Int)} (h : SS w B A zss) {k : Nat} (hk : k < zss.length) :
    ∃ b off A' c', A = some ⟨b, off, none⟩ ∧ b < B ∧ w.cell? ⟨b, off + k, none⟩ = some (.slice A' (at2 zss k).length c') ∧ (at2 zss k).length ≤ c' ∧ c' ≤ maxLen ∧ Sl w B A' (at2 zss k) := by
  obtain ⟨b, off, h1, h2⟩ := h
  obtain ⟨A', c', h3, h4, h5, h6⟩ := h2 k hk
  exact ⟨b, off, A', c', (h1 (by omega)).1, (h1 (by omega)).2, h3, h4, h5, h6⟩
theorem SS.empty (w : World) (B : Nat) (A : Option Addr) : SS w B A [] := ⟨0, 0, fun h => absurd h (by simp), fun j h => absurd h (by simp)⟩
theorem Drew.ss {a b : World} (h : Drew a b) {B : Nat} {A : Option Addr} {zss : List (List Int)} (hs : SS a B A zss) : SS b B A zss := by
  obtain ⟨d, rfl⟩ := h
  exact hs.keep fun _ _ => rfl

/-- A row of the call's own, of any one-cell values. -/
def GRow (w : World) (lo hi : Nat) (e : TypeId) (v : Value) (xs : List Value) : Prop := w.ownsRow lo e 1 v xs.length xs ∧ ∀ g, v.ownBlock = some g → g < hi
section
variable {w w' : World} {lo hi : Nat} {e : TypeId} {v : Value} {xs : List Value}
theorem GRow.grown {row : Option Nat} (h : GRow w lo hi e v xs) (hg : w.grownBy w' row) (hr : ∀ g, row = some g → g < lo ∨ hi ≤ g) : GRow w' lo hi e v xs := by
  refine ⟨h.1.kept hg ?_, h.2⟩
  cases hv : v.ownBlock with
  | none => exact .inl rfl
  | some g =>
    right
    intro e
    have h1 := h.1.lt g hv
    have h2 := h.2 g hv
    rcases hr g e.symm with h3 | h3 <;> omega
theorem GRow.below {B : Nat} (h : GRow w lo hi e v xs) (hb : Below B w w') (hB : hi ≤ B) : GRow w' lo hi e v xs := by
  obtain ⟨⟨h1, h2⟩, h3⟩ := h
  refine ⟨⟨h1, ?_⟩, h3⟩
  rcases h2 with h2 | ⟨g, cap, cur, rfl, hlo, hh, r⟩
  · exact .inl h2
  · refine .inr ⟨g, cap, cur, rfl, hlo, ?_, r⟩
    rw [hb.block g (by have := h3 g rfl; omega)]
    exact hh
theorem GRow.wider {lo' hi' : Nat} (h : GRow w lo hi e v xs) (h1 : lo' ≤ lo) (h2 : hi ≤ hi') : GRow w lo' hi' e v xs := by
  obtain ⟨⟨a, b⟩, c⟩ := h
  refine ⟨⟨a, ?_⟩, fun g hg => Nat.lt_of_lt_of_le (c g hg) h2⟩
  rcases b with b | ⟨g, cap, cur, hv, hlo, r⟩
  · exact .inl b
  · exact .inr ⟨g, cap, cur, hv, Nat.le_trans h1 hlo, r⟩
theorem GRow.form (h : GRow w lo hi e v xs) : ∃ A c, v = .slice A xs.length c ∧ xs.length ≤ c ∧ c ≤ maxLen := by
  obtain ⟨⟨h1, h2⟩, h3⟩ := h
  rcases h2 with ⟨rfl, hn⟩ | ⟨g, cap, cur, rfl, hlo, hh, hnc, hcm, hcs, htk⟩
  · have hz : xs = [] := List.eq_nil_of_length_eq_zero hn
    subst hz
    exact ⟨none, 0, rfl, Nat.le_refl _, by simp [maxLen]⟩
  · exact ⟨some ⟨g, 0, none⟩, cap, rfl, hnc, hcm⟩
theorem GRow.block_lt (h : GRow w lo hi e v xs) : ∀ g, v.ownBlock = some g → lo ≤ g ∧ g < hi := fun g hg => ⟨(h.1.lt g hg).1, h.2 g hg⟩
theorem GRow.len {A : Option Addr} {n c : Nat} (h : GRow w lo hi e (.slice A n c) xs) : n = xs.length := by
  obtain ⟨A', c', hv, _⟩ := h.form
  injection hv with h1 h2
theorem GRow.cell_ {A : Option Addr} {n c : Nat} (h : GRow w lo hi e (.slice A n c) xs) {j : Nat} (hj : j < xs.length) :
    ∃ g, A = some ⟨g, 0, none⟩ ∧ lo ≤ g ∧ g < hi ∧ w.cell? ⟨g, j, none⟩ = some xs[j] ∧ w.frozen? ⟨g, j, none⟩ = false := by
  have hn := h.len
  subst hn
  rcases h.1.2 with ⟨hv, hn⟩ | ⟨g, cap, cur, hv, _⟩
  · omega
  · injection hv with h1 h2 h3
    subst h1
    have h4 := h.block_lt g rfl
    refine ⟨g, rfl, h4.1, h4.2, ?_, h.1.frozenAt j⟩
    rw [h.1.cellAt j (by omega)]
    simp [hj]
theorem GRow.some_ {A : Option Addr} {n c : Nat} (h : GRow w lo hi e (.slice A n c) xs) {j : Nat} (hj : j < xs.length) :
    ∃ g u, A = some ⟨g, 0, none⟩ ∧ lo ≤ g ∧ g < hi ∧ w.cell? ⟨g, j, none⟩ = some u ∧ w.frozen? ⟨g, j, none⟩ = false := by
  obtain ⟨g, h1, h2, h3, h4, h5⟩ := h.cell_ hj
  exact ⟨g, _, h1, h2, h3, h4, h5⟩
theorem GRow.stored {g n c : Nat} (h : GRow w lo hi e (.slice (some ⟨g, 0, none⟩) n c) xs) (j : Nat) (u : Value) :
    GRow (w.setCell ⟨g, j, none⟩ u) lo hi e (.slice (some ⟨g, 0, none⟩) n c) (xs.set j u) ∧ w.grownBy (w.setCell ⟨g, j, none⟩ u) (some g) := by
  have hn := h.len
  subst hn
  obtain ⟨h1, h2⟩ := h
  have h3 := h1.stored j u
  refine ⟨⟨?_, h2⟩, h3.2⟩
  rw [List.length_set]
  exact h3.1
end

/-- Rows of numbers, one behind the other in blocks from lo on and below hi. -/
def Rows (w : World) : Nat → Nat → List Value → List (List Int) → Prop
  | lo, hi, [], [] => lo ≤ hi
  | lo, hi, v :: vs, zs :: zss => ∃ m, lo ≤ m ∧ m ≤ hi ∧ Row w lo m v zs ∧ Rows w m hi vs zss
  | _, _, [], _ :: _ => False
  | _, _, _ :: _, [] => False
theorem Rows.le {w : World} : ∀ {vs : List Value} {zss : List (List Int)} {lo hi : Nat}, Rows w lo hi vs zss → lo ≤ hi
  | [], [], _, _, h => h
  | _ :: _, _ :: _, _, _, ⟨_, h1, h2, _⟩ => Nat.le_trans h1 h2
  | [], _ :: _, _, _, h => h.elim
  | _ :: _, [], _, _, h => h.elim
theorem Rows.len {w : World} : ∀ {vs : List Value} {zss : List (List Int)} {lo hi : Nat}, Rows w lo hi vs zss → vs.length = zss.length
  | [], [], _, _, _ => rfl
  | _ :: _, _ :: _, _, _, ⟨_, _, _, _, h⟩ => by simp [h.len]
  | [], _ :: _, _, _, h => h.elim
  | _ :: _, [], _, _, h => h.elim
theorem Rows.snoc {w : World} : ∀ {vs : List Value} {zss : List (List Int)} {lo m hi : Nat} {v : Value} {zs : List Int}, Rows w lo m vs zss → m ≤ hi → Row w m hi v zs → Rows w lo hi (vs ++ [v]) (zss ++ [zs])
  | [], [], lo, m, hi, v, zs, h, hm, hr => ⟨hi, by unfold Rows at h; omega, Nat.le_refl _, hr.wider h (Nat.le_refl _), Nat.le_refl _⟩
  | _ :: _, _ :: _, _, _, _, _, _, ⟨k, h1, h2, h3, h4⟩, hm, hr => ⟨k, h1, Nat.le_trans h2 hm, h3, h4.snoc hm hr⟩
  | [], _ :: _, _, _, _, _, _, h, _, _ => h.elim
  | _ :: _, [], _, _, _, _, _, h, _, _ => h.elim
theorem Rows.keep {w w' : World} {lo hi : Nat} (hk : ∀ lo' hi' v zs, lo ≤ lo' → hi' ≤ hi → Row w lo' hi' v zs → Row w' lo' hi' v zs) : ∀ {vs : List Value} {zss : List (List Int)} {l h : Nat}, lo ≤ l → h ≤ hi → Rows w l h vs zss → Rows w' l h vs zss
  | [], [], _, _, _, _, h => h
  | _ :: _, _ :: _, _, _, a, b, ⟨k, h1, h2, h3, h4⟩ => ⟨k, h1, h2, hk _ _ _ _ a (Nat.le_trans h2 b) h3, h4.keep hk (Nat.le_trans a h1) b⟩
  | [], _ :: _, _, _, _, _, h => h.elim
  | _ :: _, [], _, _, _, _, h => h.elim
theorem Rows.below {w w' : World} {B lo hi : Nat} {vs : List Value} {zss : List (List Int)} (h : Rows w lo hi vs zss) (hb : Below B w w') (hB : hi ≤ B) : Rows w' lo hi vs zss :=
  h.keep (fun _ _ _ _ _ h2 hr => hr.below hb (Nat.le_trans h2 hB)) (Nat.le_refl _) (Nat.le_refl _)
theorem Rows.grown {w w' : World} {row : Option Nat} {lo hi : Nat} {vs : List Value} {zss : List (List Int)} (h : Rows w lo hi vs zss) (hg : w.grownBy w' row) (hr : ∀ g, row = some g → g < lo ∨ hi ≤ g) : Rows w' lo hi vs zss :=
  h.keep (fun _ _ _ _ h1 h2 r => r.grown hg (fun g e => by rcases hr g e with h | h <;> omega)) (Nat.le_refl _) (Nat.le_refl _)
theorem Rows.wider {w : World} : ∀ {vs : List Value} {zss : List (List Int)} {lo hi lo' hi' : Nat}, Rows w lo hi vs zss → lo' ≤ lo → hi ≤ hi' → Rows w lo' hi' vs zss
  | [], [], _, _, _, _, h, a, b => by unfold Rows at h ⊢; omega
  | _ :: _, _ :: _, _, _, _, _, ⟨k, h1, h2, h3, h4⟩, a, b => ⟨k, Nat.le_trans a h1, Nat.le_trans h2 b, h3.wider a (Nat.le_refl _), h4.wider (Nat.le_refl _) b⟩
  | [], _ :: _, _, _, _, _, h, _, _ => h.elim
  | _ :: _, [], _, _, _, _, h, _, _ => h.elim
theorem Rows.at_ {w : World} : ∀ {vs : List Value} {zss : List (List Int)} {lo hi : Nat}, Rows w lo hi vs zss → ∀ {k : Nat} (hk : k < vs.length), ∃ l h, lo ≤ l ∧ h ≤ hi ∧ Row w l h vs[k] (at2 zss k)
  | _ :: _, _ :: _, lo, _, ⟨m, h1, h2, h3, h4⟩, 0, _ => ⟨lo, m, Nat.le_refl _, h2, h3⟩
  | _ :: vs, _ :: zss, _, _, ⟨m, h1, h2, h3, h4⟩, k + 1, hk => by
    obtain ⟨l, h, a, b, c⟩ := h4.at_ (k := k) (by simpa using hk)
    exact ⟨l, h, by omega, b, by simpa [at2] using c⟩
  | [], _, _, _, _, k, hk => absurd hk (by simp)
  | _ :: _, [], _, _, h, _, _ => h.elim
/-- Row k written, in its length. -/
theorem Rows.upd {w w' : World} : ∀ {vs : List Value} {zss : List (List Int)} {lo hi : Nat} {k : Nat} {zs' : List Int} (_ : Rows w lo hi vs zss) (hk : k < vs.length) (_ : w.grownBy w' vs[k].ownBlock)
    (_ : ∀ l h, Row w l h vs[k] (at2 zss k) → Row w' l h vs[k] zs'), Rows w' lo hi vs (zss.set k zs')
  | v :: vs, zs :: zss, lo, hi, 0, zs', ⟨m, h1, h2, h3, h4⟩, _, hg, hw => ⟨m, h1, h2, hw lo m h3, h4.grown hg (fun g e => .inl (h3.block_lt g e).2)⟩
  | v :: vs, zs :: zss, lo, hi, k + 1, zs', ⟨m, h1, h2, h3, h4⟩, hk, hg, hw => by
    have hk' : k < vs.length := by simpa using hk
    refine ⟨m, h1, h2, ?_, h4.upd hk' hg (fun l h r => hw l h (by simpa [at2] using r))⟩
    obtain ⟨l, h, a, b, c⟩ := h4.at_ hk'
    exact h3.grown hg (fun g e => .inr (by have := (c.block_lt g e).1; omega))
  | [], _, _, _, _, _, _, hk, _, _ => absurd hk (by simp)
  | _ :: _, [], _, _, _, _, h, _, _, _ => h.elim

/-- A list of lists in rows of the call's own, from block lo on and below hi: the headers first. -/
def RowSS (w : World) (lo hi : Nat) (v : Value) (zss : List (List Int)) : Prop := ∃ vs m, lo ≤ m ∧ GRow w lo m 29 v vs ∧ Rows w m hi vs zss
section
variable {w w' : World} {lo hi : Nat} {v : Value} {zss : List (List Int)}
theorem RowSS.grown {row : Option Nat} (h : RowSS w lo hi v zss) (hg : w.grownBy w' row) (hr : ∀ g, row = some g → g < lo ∨ hi ≤ g) : RowSS w' lo hi v zss := by
  obtain ⟨vs, m, h1, h2, h3⟩ := h
  have := h3.le
  exact ⟨vs, m, h1, h2.grown hg (fun g e => by rcases hr g e with h | h <;> omega), h3.grown hg (fun g e => by rcases hr g e with h | h <;> omega)⟩
theorem RowSS.below {B : Nat} (h : RowSS w lo hi v zss) (hb : Below B w w') (hB : hi ≤ B) : RowSS w' lo hi v zss := by
  obtain ⟨vs, m, h1, h2, h3⟩ := h
  have := h3.le
  exact ⟨vs, m, h1, h2.below hb (by omega), h3.below hb hB⟩
theorem RowSS.wider {lo' hi' : Nat} (h : RowSS w lo hi v zss) (h1 : lo' ≤ lo) (h2 : hi ≤ hi') : RowSS w lo' hi' v zss := by
  obtain ⟨vs, m, a, b, c⟩ := h
  exact ⟨vs, m, by omega, b.wider h1 (Nat.le_refl _), c.wider (Nat.le_refl _) h2⟩
theorem RowSS.form (h : RowSS w lo hi v zss) : ∃ A c, v = .slice A zss.length c ∧ zss.length ≤ c ∧ c ≤ maxLen ∧ SS w hi A zss := by
  obtain ⟨vs, m, a, b, c⟩ := h
  obtain ⟨A, cc, rfl, h1, h2⟩ := b.form
  have hl := c.len
  have hle := c.le
  refine ⟨A, cc, by rw [hl], by omega, h2, ?_⟩
  rcases Nat.eq_zero_or_pos zss.length with h0 | h0
  · have : zss = [] := List.eq_nil_of_length_eq_zero h0
    subst this
    exact SS.empty _ _ _
  · obtain ⟨g, rfl, hg1, hg2, _, _⟩ := b.cell_ (j := 0) (by omega)
    refine ⟨g, 0, fun _ => ⟨rfl, by omega⟩, fun j hj => ?_⟩
    have hj' : j < vs.length := by omega
    obtain ⟨g', hg', _, _, hc, _⟩ := b.cell_ hj'
    cases hg'
    obtain ⟨l, h, hl1, hh1, hr⟩ := c.at_ hj'
    obtain ⟨A', c', he, h3, h4, h5⟩ := hr.form
    exact ⟨A', c', by rw [Nat.zero_add, hc, he], h3, h4, h5.more hh1⟩
end
end Go.Proofs.Ytfkccdmjlopleaa
