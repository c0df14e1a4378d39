/- Contracts of the functions on lists of numbers that the exact laws share: copies, equality, marks. -/
import Derived.Test.YtfkccdmjlopleaaChecked
import Derived.Test.YtfkccdmjlopleaaMem
import Derived.Test.YtfkccdmjlopleaaScal
import Derived.Deep.LoopGhost
import Derived.CellFam
import Derived.Deep.OwnRows
import Derived.Deep.QuietTactic
import Derived.BigQuiet
namespace Go.Proofs.Ytfkccdmjlopleaa
open Go.RowKit

theorem info_int : (Try.prog.info? 3).map (fun i => (i.zero, i.size, i.bytes)) = some (some (.int .i64 0), 1, 8) := by kernel_rfl

/-- The first k numbers of zs, then zeros: so many as zs has. -/
def fillTo (zs : List Int) (k : Nat) : List Int := zs.take k ++ List.replicate (zs.length - k) 0
theorem fillTo_length (zs : List Int) (k : Nat) (hk : k ≤ zs.length) : (fillTo zs k).length = zs.length := by simp [fillTo]; omega
theorem fillTo_zero (zs : List Int) : fillTo zs 0 = List.replicate zs.length 0 := by simp [fillTo]
theorem fillTo_full (zs : List Int) : fillTo zs zs.length = zs := by simp [fillTo]
theorem fillTo_succ (zs : List Int) (k : Nat) (hk : k < zs.length) : fillTo zs (k + 1) = (fillTo zs k).set k (zs.getD k 0) := by
  unfold fillTo
  have e1 : zs.length - k = (zs.length - (k + 1)) + 1 := by omega
  have e0 : (zs.take k).length = k := by simp; omega
  have e3 : zs.take (k + 1) = zs.take k ++ [zs.getD k 0] := by rw [List.take_add_one, List.getElem?_eq_getElem hk]; simp [hk]
  rw [e1, List.replicate_succ, List.set_append_right _ _ (by omega), e0, Nat.sub_self, List.set_cons_zero, e3, List.append_assoc]
  rfl
/-- What the first k + 1 numbers in a row are, k of them in and the next one stored. -/
theorem own_fill {w : World} {B k n : Nat} {zs : List Int} (hk : k < zs.length) (h : w.ownsRow B 3 1 (.slice (some ⟨B, 0, none⟩) n n) n ((fillTo zs k).map (Value.int .i64))) :
    (w.setCell ⟨B, k, none⟩ (.int .i64 (zs.getD k 0))).ownsRow B 3 1 (.slice (some ⟨B, 0, none⟩) n n) n ((fillTo zs (k + 1)).map (Value.int .i64)) := by
  rw [fillTo_succ zs k hk, List.map_set]
  exact (h.stored k _).1
theorem madeCells_ints (n : Nat) : (madeCells #[Value.int .i64 0] n).toList = (List.replicate n (0 : Int)).map (Value.int .i64) := by rw [toList_madeCells_one]; simp

set_option maxHeartbeats 400000 in
theorem toIntS_any (A : Option Addr) (c : Nat) (zs : List Int) (w : World) (hs : Sl w w.heap.size A zs) (hn : zs.length ≤ 2000000) :
    Calls Try.prog 34 #[.slice A zs.length c] w fun e w' => ∃ v, e = .returned v ∧ Row w' w.heap.size w'.heap.size v zs ∧ Below w.heap.size w w' := by
  have hmk := run_make_row' (P := Try.prog) 29 3 (.int .i64 0) 8 Try.underlying29 info_int rfl .i64 .i64 zs.length (by omega) (by omega)
  obtain ⟨b, off, hA, hcell⟩ := hs
  have HA := Lib.hid hA
  have HC := Lib.hid hcell
  clear hA hcell
  go_enter Try.func34, Try.ntmps34
  go_wp2
  clear hmk
  have h0 : (w.alloc (.cells (madeCells #[Value.int .i64 0] zs.length) 3)).ownsRow w.heap.size 3 1 (.slice (some ⟨w.heap.size, 0, none⟩) zs.length zs.length) zs.length ((fillTo zs 0).map (Value.int .i64)) := by
    rw [fillTo_zero, ← madeCells_ints]
    exact World.ownsRow_lit w _ _ (Nat.le_refl _) (by simp only [maxLen]; omega) (by simp [madeCells])
  go_loopw [4] (fun i wr => ∃ k : Nat, k ≤ zs.length ∧ i = .int .i64 k ∧ wr.ownsRow w.heap.size 3 1 (.slice (some ⟨w.heap.size, 0, none⟩) zs.length zs.length) zs.length ((fillTo zs k).map (Value.int .i64)) ∧ Below w.heap.size w wr) (fun i _ => zs.length - (intOf i).toNat)
  case atStart => exact ⟨0, Nat.zero_le _, rfl, h0, (Below.refl _ _).alloc (Nat.le_refl _) _⟩
  case round =>
    obtain ⟨k, hk, rfl, hown, hnx⟩ := hrel
    clear h0
    by_cases hlt : k < zs.length
    · obtain ⟨rfl, hbB⟩ := HA.out (by omega)
      have S := Lib.hid (own_fill hlt hown)
      obtain ⟨u, hu⟩ : ∃ u, wr.cell? ⟨w.heap.size, k, none⟩ = some u := ⟨_, by rw [hown.cellAt k (by omega), List.getElem?_eq_getElem (by rw [List.length_map, fillTo_length zs k hk]; exact hlt)]⟩
      have hfz := hown.frozenAt k
      obtain ⟨z, hz⟩ : ∃ z, zs.getD k 0 = z := ⟨_, rfl⟩
      have hcx : wr.cell? ⟨b, off + k, none⟩ = some (.int .i64 z) := by rw [← hz]; exact (hnx.cell (p := ⟨b, off + k, none⟩) hbB).trans (HC.out k hlt)
      rw [hz] at S
      clear hown hz
      go_wp2
      go_roundw
      case rel => exact ⟨k + 1, by omega, by go_num, S.out, hnx.setCell (Nat.le_refl _) _⟩
      case measure => simp [intOf]; omega
    · have hkl : k = zs.length := by omega
      have HK := Lib.hid hkl
      clear hkl
      go_wp2
      go_ret
      have e := HK.out
      subst e
      rw [fillTo_full] at hown
      exact ⟨_, rfl, ⟨hown, fun g hg => by simp [Value.ownBlock] at hg; have := hown.lt g (by simp [Value.ownBlock, hg]); omega⟩, hnx⟩

theorem Sl.at_ {w : World} {B : Nat} {A : Option Addr} {zs : List Int} (h : Sl w B A zs) {k : Nat} (hk : k < zs.length) : ∃ b off, A = some ⟨b, off, none⟩ ∧ b < B ∧ w.cell? ⟨b, off + k, none⟩ = some (.int .i64 (zs.getD k 0)) := by
  obtain ⟨b, off, h1, h2⟩ := h
  exact ⟨b, off, (h1 (by omega)).1, (h1 (by omega)).2, h2 k hk⟩

/-- Two lists that read the same are equal. -/
theorem eqIntS_same (A A' : Option Addr) (c c' : Nat) (zs : List Int) (w : World) (h1 : Sl w w.heap.size A zs) (h2 : Sl w w.heap.size A' zs) (hn : zs.length ≤ 4611686018427387904) :
    Calls Try.prog 20 #[.slice A zs.length c, .slice A' zs.length c'] w fun e w' => e = .returned (.bool true) ∧ Below w.heap.size w w' := by
  have H1 := Lib.hid h1
  have H2 := Lib.hid h2
  clear h1 h2
  go_enter Try.func20, Try.ntmps20
  go_wp2
  go_loopw [5] (fun i wr => ∃ k : Nat, k ≤ zs.length ∧ i = .int .i64 k ∧ Below w.heap.size w wr) (fun i _ => zs.length - (intOf i).toNat)
  case atStart => exact ⟨0, Nat.zero_le _, rfl, Below.refl _ _⟩
  case round =>
    obtain ⟨k, hk, rfl, hnx⟩ := hrel
    by_cases hlt : k < zs.length
    · obtain ⟨b, off, rfl, _, hc⟩ := (H1.out.below hnx (Nat.le_refl _)).at_ hlt
      obtain ⟨b', off', rfl, _, hc'⟩ := (H2.out.below hnx (Nat.le_refl _)).at_ hlt
      obtain ⟨z, hz⟩ : ∃ z, zs.getD k 0 = z := ⟨_, rfl⟩
      rw [hz] at hc hc'
      clear hz
      go_wp2
      go_quiet (fail)
      go_wp2
      go_roundw
      case rel => exact ⟨k + 1, by omega, by go_num, below_drewN hnx _⟩
      case measure => simp [intOf]; omega
    · go_wp2
      go_ret
      exact ⟨rfl, hnx⟩

theorem add_at (b off j : Nat) : (⟨b, off, none⟩ : Addr).add j = ⟨b, off + j, none⟩ := by unfold Addr.add; split <;> simp_all
/-- The numbers of a slice as the cells that an append takes. -/
theorem news_sl {w : World} {b off : Nat} {zs : List Int} (h : ∀ j, j < zs.length → w.cell? ⟨b, off + j, none⟩ = some (.int .i64 (zs.getD j 0))) : ∀ j u, (zs.map (Value.int .i64))[j]? = some u → w.cell? ((⟨b, off, none⟩ : Addr).add j) = some u := by
  intro j u hj
  rw [List.getElem?_map] at hj
  cases hz : zs[j]? with
  | none => rw [hz] at hj; simp at hj
  | some z =>
    rw [hz] at hj
    simp at hj
    subst hj
    have hlt := (List.getElem?_eq_some_iff.1 hz).1
    rw [add_at, h j hlt]
    simp [hz]
theorem ints_oneCell' (zs : List Int) : ∀ u ∈ zs.map (Value.int .i64), u.oneCell' = true := by
  intro u hu
  obtain ⟨z, _, rfl⟩ := List.mem_map.1 hu
  rfl
theorem Sl.of_own {w : World} {B g c n : Nat} {zs : List Int} (h : w.ownsRow B 3 1 (.slice (some ⟨g, 0, none⟩) n c) n (zs.map (Value.int .i64))) (hg : g < w.heap.size) : Sl w w.heap.size (some ⟨g, 0, none⟩) zs := by
  refine ⟨g, 0, fun _ => ⟨rfl, hg⟩, fun j hj => ?_⟩
  have hl := h.1
  simp only [List.length_map] at hl
  rw [Nat.zero_add, h.cellAt j (by omega)]
  simp [hj]

section
variable (w : World)
theorem run_append_none (base : Nat) (t ty : TypeId) (i : TypeInfo) (ht : Try.prog.underlying t = some (.slice 3)) (hi : Try.prog.info? 3 = some i)
    (v : Value) (n : Nat) (xs : List Value) (hown : w.ownsRow base 3 1 v n xs) (c : Nat) : (Builtin.append_ #[t, t] ty #[v, .slice none 0 c]).run Try.prog w = .ok v w := by
  rcases hown.2 with ⟨rfl, rfl⟩ | ⟨g, cap, cur, rfl, _, _, hnc, _⟩
  · simp [Builtin.append_, run_underlying ht, sizeOf, typeInfo, hi, Builtin.lenOf, Builtin.firstCells]
  · simp [Builtin.append_, run_underlying ht, sizeOf, typeInfo, hi, Builtin.lenOf, Builtin.firstCells, hnc, storeCells]
/-- append of a whole list of numbers, nil and empty ones too, onto a row of the call's own. -/
theorem run_append_sl (base : Nat) (t ty : TypeId) (ht : Try.prog.underlying t = some (.slice 3))
    (v : Value) (n : Nat) (xs : List Value) (hown : w.ownsRow base 3 1 v n xs) (B : Nat) (A : Option Addr) (c : Nat) (zs : List Int) (hs : Sl w B A zs)
    (h63 : n + zs.length ≤ maxLen) (hbytes : (n + zs.length) * 8 ≤ 140737488355328) (hbase : base ≤ w.heap.size) :
    ∃ v' w', (Builtin.append_ #[t, t] ty #[v, .slice A zs.length c]).run Try.prog w = .ok v' w' ∧ w'.ownsRow base 3 1 v' (n + zs.length) (xs ++ zs.map (Value.int .i64)) ∧ w.grownBy w' v.ownBlock ∧
      (v'.ownBlock = v.ownBlock ∨ v'.ownBlock = some w.heap.size) := by
  obtain ⟨i0, hi, hz0, hz1, hz2⟩ := info_parts info_int
  obtain ⟨b, off, hA, hcell⟩ := hs
  rcases A with _ | ad
  · have hz : zs.length = 0 := by
      rcases Nat.eq_zero_or_pos zs.length with h0 | h0
      · exact h0
      · have := (hA h0).1; cases this
    have hnil : zs = [] := List.eq_nil_of_length_eq_zero hz
    subst hnil
    exact ⟨v, w, run_append_none w base t ty i0 ht hi v n xs hown c, by simpa using hown, World.grownBy.refl w _, .inl rfl⟩
  · have hcells : ∀ j u, (zs.map (Value.int .i64))[j]? = some u → w.cell? (ad.add j) = some u := by
      intro j u hj
      rcases Nat.eq_zero_or_pos zs.length with h0 | h0
      · have hnil : zs = [] := List.eq_nil_of_length_eq_zero h0
        subst hnil
        simp at hj
      · obtain ⟨e, _⟩ := hA h0
        injection e with e
        subst e
        exact news_sl hcell j u hj
    obtain ⟨v', w', hrun, h2, h3, _, h5⟩ := run_append_own_at (P := Try.prog) w base t ty 3 i0 (.int .i64 0) 1 8 ht hi hz0 hz1 hz2 rfl (by decide) v n xs hown ad zs.length c (zs.map (Value.int .i64)) (by simp) hcells (ints_oneCell' zs) h63 hbytes hbase
    exact ⟨v', w', hrun, h2, h3, h5⟩
theorem wp_append_sl {o : Oper} {a : Act} {K : Act → World → Prop} {Q : Exit → Act → World → Prop} (s x : Operand) (t : TypeId)
    (ho : o.op = .call { callee := .builtin .append, args := #[s, x], argTypes := #[t, t] }) (ht : Try.prog.underlying t = some (.slice 3))
    (base : Nat) (v : Value) (n : Nat) (xs : List Value) (hsv : a.eval s = v) (hown : w.ownsRow base 3 1 v n xs) (B : Nat) (A : Option Addr) (c : Nat) (zs : List Int) (hx : a.eval x = .slice A zs.length c) (hs : Sl w B A zs)
    (h63 : n + zs.length ≤ maxLen) (hbytes : (n + zs.length) * 8 ≤ 140737488355328) (hbase : base ≤ w.heap.size)
    (h : ∀ v' w', w'.ownsRow base 3 1 v' (n + zs.length) (xs ++ zs.map (Value.int .i64)) → w.grownBy w' v.ownBlock → (v'.ownBlock = v.ownBlock ∨ v'.ownBlock = some w.heap.size) → K (a.put o.dst v') w') : o.wp Try.prog a w K Q := by
  obtain ⟨v', w', hrun, h2, h3, h4⟩ := run_append_sl w base t o.type ht v n xs hown B A c zs hs h63 hbytes hbase
  unfold Oper.wp execOp
  simp only [ho, resolve, invoke, builtin, Sem.run_bind, Sem.run_pure, Result.andThen_ok, List.map_toArray, List.map_cons, List.map_nil, hsv, hx, hrun]
  exact h v' w' h2 h3 h4
theorem wpList_append_sl {ops : Array Oper} {rest : List Oper} {o : Oper} {a : Act} {Q : Exit → Act → World → Prop} (hw : Region.wanted o (yielded ops a.tmps) = true) (s x : Operand) (t : TypeId)
    (ho : o.op = .call { callee := .builtin .append, args := #[s, x], argTypes := #[t, t] }) (ht : Try.prog.underlying t = some (.slice 3))
    (base : Nat) (v : Value) (n : Nat) (xs : List Value) (hsv : a.eval s = v) (hown : w.ownsRow base 3 1 v n xs) (B : Nat) (A : Option Addr) (c : Nat) (zs : List Int) (hx : a.eval x = .slice A zs.length c) (hs : Sl w B A zs)
    (h63 : n + zs.length ≤ maxLen) (hbytes : (n + zs.length) * 8 ≤ 140737488355328) (hbase : base ≤ w.heap.size)
    (h : ∀ v' w', w'.ownsRow base 3 1 v' (n + zs.length) (xs ++ zs.map (Value.int .i64)) → w.grownBy w' v.ownBlock → (v'.ownBlock = v.ownBlock ∨ v'.ownBlock = some w.heap.size) → wpList Try.prog ops Q rest (a.put o.dst v') w') : wpList Try.prog ops Q (o :: rest) a w :=
  wpList_step fun _ hK => by
    rw [if_pos hw]
    exact wp_append_sl w s x t ho ht base v n xs hsv hown B A c zs hx hs h63 hbytes hbase fun v' w' h2 h3 h4 => hK _ _ (h v' w' h2 h3 h4)
end
end Go.Proofs.Ytfkccdmjlopleaa
