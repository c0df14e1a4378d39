/- The table of contracts for regions of the drawing functions: what kind of value a call gives back, given its arguments' kinds. -/
import Derived.Test.YtfkccdmjlopleaaDrawA
import Derived.Test.YtfkccdmjlopleaaAbsReg
import Derived.Deep.Cut
import Derived.Deep.CutRange
import Derived.Deep.DeepCutAuto
namespace Go.Proofs.Ytfkccdmjlopleaa
open Go.RowKit

theorem intTypes : IntTypes Try.prog 29 3 := ⟨Try.underlying29, Try.underlying3, fun t ht g w => by
  unfold matT at ht
  (cases ht)
  , fun t ht g w x y z h0 h1 h2 => by
  unfold matT at ht
  (cases ht)
  , fun t ht g w x0 x1 x2 x3 x4 x5 h0 h1 h2 h3 h4 h5 => by
  unfold smatT at ht
  (cases ht)
  , by kernel_rfl⟩

/-- The reader's budget: after k operations of a region at most N + c k bytes were read. -/
def RdJ (L c R N k : Nat) (w : World) : Prop := Rd w R (N + c * k) ∧ N + c * 1000 ≤ L
theorem RdJ.h1 {L c R N : Nat} : ∀ k w, RdJ L c R N k w → RdJ L c R N (k + 1) w := fun _ _ h => ⟨h.1.more (Nat.add_le_add_left (Nat.mul_le_mul_left _ (Nat.le_succ _)) _), h.2⟩
theorem RdJ.h2 {L c R N : Nat} : ∀ k w o, RdJ L c R N k w → RdJ L c R N (k + 1) (w.alloc o) := fun _ _ o h => ⟨(h.1.alloc o).more (Nat.add_le_add_left (Nat.mul_le_mul_left _ (Nat.le_succ _)) _), h.2⟩
theorem RdJ.hR {L c R N : Nat} : ∀ k w, RdJ L c R N k w → R < w.heap.size := fun _ _ h => h.1.lt
theorem RdJ.small {L c R N k : Nat} {w : World} (h : RdJ L c R N k w) (hk : k < 1000) : N + c * k ≤ L := by
  have h1 : c * k ≤ c * 1000 := Nat.mul_le_mul_left c (Nat.le_of_lt hk)
  have h2 := h.2
  omega
theorem RdJ.next {L c R N k d : Nat} {w w' : World} (h : RdJ L c R N k w) (hr : Rd w' R (N + c * k + d)) (hd : d ≤ c) : RdJ L c R N (k + 1) w' :=
  ⟨hr.more (by rw [Nat.mul_add, Nat.mul_one]; omega), h.2⟩

/-- A matrix of the call's own: its values lie in a block from B0 on that is not the reader's. -/
def OwnMat (R B0 : Nat) (w : World) (v : Value) : Prop :=
  ∃ (r c : Int) (s : Value) (zs : List Int), v = .agg #[.int .i64 r, .int .i64 c, s] ∧ w.ownsRow B0 3 1 s zs.length (zs.map (Value.int .i64)) ∧ (∀ b, s.ownBlock = some b → R < b) ∧ zs.length ≤ 37 ∧ -1 ≤ r ∧ r ≤ 6 ∧ 0 ≤ c ∧ c ≤ 7
theorem OwnMat.keep {R B0 : Nat} {w w' : World} {v : Value} {row : Option Nat} (h : OwnMat R B0 w v) (hg : w.grownBy w' row) (hrow : ∀ b, row = some b → b ≤ R) : OwnMat R B0 w' v := by
  obtain ⟨r, c, s, zs, h0, h1, h2, h3⟩ := h
  exact ⟨r, c, s, zs, h0, h1.kept hg (by cases hv : s.ownBlock with | none => exact .inl rfl | some g => right; intro e; have h4 := hrow g e.symm; have h5 := h2 g hv; omega), h2, h3⟩

/-- The kinds beyond numbers: 0 a matrix of the call's own; the others: what the walk says of a value (E). -/
def XD (R B0 : Nat) (E : Nat → Value → Prop) : Nat → World → Value → Prop
  | 0, w, v => OwnMat R B0 w v
  | k + 1, _, v => E k v
theorem XD.row {R B0 : Nat} {E : Nat → Value → Prop} {row : Option Nat} (hrow : ∀ b, row = some b → b ≤ R) : ∀ k w w' v, XD R B0 E k w v → w.grownBy w' row → XD R B0 E k w' v
  | 0, _, _, _, h, hg => OwnMat.keep h hg hrow
  | _ + 1, _, _, _, h, _ => h
theorem XD.keep {R B0 : Nat} {E : Nat → Value → Prop} : ∀ k w w' v, XD R B0 E k w v → w.grownBy w' (some R) → XD R B0 E k w' v := XD.row fun b e => by cases e; exact Nat.le_refl _

def TD : Nat → List Ty
  | _ => []

/-- One row of the table is sound. -/
def Sound (L c : Nat) (f : FuncId) (g : List Ty → Option Ty) : Prop :=
  ∀ (R B0 N : Nat) (E : Nat → Value → Prop) (ts : List Ty) (τ : Ty) (vs : List Value) (k : Nat) (w : World), g ts = some τ → okArgs R (XD R B0 E) TD w ts vs → B0 ≤ R → RdJ L c R N k w → k < 1000 →
    (∀ w, (callFunc f vs.toArray).run Try.prog w = .ok (.enter f vs.toArray) w) ∧
    Calls Try.prog f vs.toArray w fun e w' => ∃ v, e = .returned v ∧ τ.ok R (XD R B0 E) TD w' v ∧ RdJ L c R N (k + 1) w' ∧ w.grownBy w' (some R)

def sigOf (tbl : List (FuncId × (List Ty → Option Ty))) (f : FuncId) (ts : List Ty) : Option Ty :=
  match tbl.find? (fun p => p.1 == f) with
  | some p => p.2 ts
  | none => none
def AllSound (L c : Nat) : List (FuncId × (List Ty → Option Ty)) → Prop
  | [] => True
  | p :: r => Sound L c p.1 p.2 ∧ AllSound L c r
theorem allSound_mem {L c : Nat} : ∀ {tbl : List (FuncId × (List Ty → Option Ty))}, AllSound L c tbl → ∀ p ∈ tbl, Sound L c p.1 p.2
  | [], _, p, hp => by cases hp
  | q :: r, h, p, hp => by
    rcases List.mem_cons.1 hp with rfl | hp
    · exact h.1
    · exact allSound_mem h.2 p hp
theorem sigOf_sound {tbl : List (FuncId × (List Ty → Option Ty))} {L c : Nat} (h : AllSound L c tbl) {R B0 N : Nat} {E : Nat → Value → Prop} (hB : B0 ≤ R) : ∀ f ts τ vs k w, sigOf tbl f ts = some τ → okArgs R (XD R B0 E) TD w ts vs → RdJ L c R N k w → k < 1000 →
    (∀ w, (callFunc f vs.toArray).run Try.prog w = .ok (.enter f vs.toArray) w) ∧
    Calls Try.prog f vs.toArray w fun e w' => ∃ v, e = .returned v ∧ τ.ok R (XD R B0 E) TD w' v ∧ RdJ L c R N (k + 1) w' ∧ w.grownBy w' (some R) := by
  intro f ts τ vs k w hs
  unfold sigOf at hs
  split at hs
  · rename_i p hp
    have h1 := List.find?_some hp
    simp only [beq_iff_eq] at h1
    subst h1
    exact fun ha hJ hk => allSound_mem h p (List.mem_of_find?_eq_some hp) R B0 N E ts τ vs k w hs ha hB hJ hk
  · cases hs

/-- What the frame holds ahead of the region. -/
def envOf (l : List (Tmp × Ty)) (t : Tmp) : Option Ty :=
  match l.find? (fun p => p.1 == t) with
  | some p => some p.2
  | none => none
def EnvOk (R B0 : Nat) (E : Nat → Value → Prop) (w : World) (a : Act) : List (Tmp × Ty) → Prop
  | [] => True
  | p :: r => p.2.ok R (XD R B0 E) TD w (a.tmps.getD p.1 undef) ∧ EnvOk R B0 E w a r
theorem envOk_mem {R B0 : Nat} {E : Nat → Value → Prop} {w : World} {a : Act} : ∀ {l : List (Tmp × Ty)}, EnvOk R B0 E w a l → ∀ p ∈ l, p.2.ok R (XD R B0 E) TD w (a.tmps.getD p.1 undef)
  | [], _, p, hp => by cases hp
  | q :: r, h, p, hp => by
    rcases List.mem_cons.1 hp with rfl | hp
    · exact h.1
    · exact envOk_mem h.2 p hp
theorem envOf_ok {R B0 : Nat} {E : Nat → Value → Prop} {w : World} {a : Act} {l : List (Tmp × Ty)} (h : EnvOk R B0 E w a l) : ∀ t σ, envOf l t = some σ → σ.ok R (XD R B0 E) TD w (a.tmps.getD t undef) := by
  intro t σ hs
  unfold envOf at hs
  split at hs
  · rename_i p hp
    injection hs with hs
    subst hs
    have h1 := List.find?_some hp
    simp only [beq_iff_eq] at h1
    subst h1
    exact envOk_mem h p (List.mem_of_find?_eq_some hp)
  · cases hs
theorem ok_rd (R B0 : Nat) (E : Nat → Value → Prop) (w : World) : Ty.rd.ok R (XD R B0 E) TD w (.pointer (some ⟨R, 0, none⟩)) := by
  simp [Ty.ok, Ty.ok0, Ty.rd]

/-- Is the reckoned kind within the one that is told? -/
def fits (τ σ : Ty) : Bool := decide (τ.k = σ.k) && (if τ.k = 3 ∨ τ.k = 4 then decide (σ.lo ≤ τ.lo) && decide (τ.hi ≤ σ.hi) && decide (τ.n = σ.n) else decide (10 ≤ τ.k))
theorem fits_ok {R B0 : Nat} {E : Nat → Value → Prop} {w : World} {τ σ : Ty} {v : Value} (h : fits τ σ = true) (hv : τ.ok R (XD R B0 E) TD w v) : σ.ok R (XD R B0 E) TD w v := by
  simp only [fits, Bool.and_eq_true, decide_eq_true_eq] at h
  obtain ⟨hk, h⟩ := h
  split at h
  · rename_i h34
    simp only [Bool.and_eq_true, decide_eq_true_eq] at h
    rcases h34 with h3 | h4
    · obtain ⟨z, rfl, z1, z2⟩ := of_ok_int hv h3
      simp only [Ty.ok, Ty.ok0, ← hk, h3]
      simp
      omega
    · obtain ⟨g, rfl, hne, hc⟩ := of_ok_sl hv h4
      simp only [Ty.ok, Ty.ok0, ← hk, h4]
      simp only [← h.2]
      refine ⟨g, rfl, hne, fun j hj => ?_⟩
      obtain ⟨z, hz, z1, z2⟩ := hc j hj
      exact ⟨z, hz, by omega, by omega⟩
  · rename_i h3
    have h10 := of_decide_eq_true h
    have e1 : ∀ ρ : Ty, 10 ≤ ρ.k → (ρ.ok R (XD R B0 E) TD w v ↔ XD R B0 E (ρ.k - 10) w v) := fun ρ hρ => by
      unfold Ty.ok Ty.ok0
      rw [if_neg (by omega), if_neg (by omega), if_neg (by omega), if_neg (by omega), if_neg (by omega), if_neg (by omega), if_neg (by omega), if_neg (by omega), if_neg (by omega), if_neg (by omega), if_pos hρ]
    rw [e1 σ (by omega), ← hk]
    exact (e1 τ h10).1 hv
/-- The operations, their reckoned kinds, and what is to be told of them. -/
def outsOk (outs : List (Tmp × Ty)) : List Oper → List Ty → Bool
  | [], [] => true
  | o :: l, τ :: ts => (match o.dst.bind (envOf outs) with | some σ => fits τ σ | none => true) && outsOk outs l ts
  | _, _ => false
def regionOk (tS tI : TypeId) (tbl : List (FuncId × (List Ty → Option Ty))) (envL outs : List (Tmp × Ty)) (l : List Oper) : Bool :=
  match absGo tS tI TD (sigOf tbl) (envOf envL) l l [] with
  | some tys => outsOk outs l tys
  | none => false

/-- The results put in, of which those in outs alone are told. -/
def Puts (R B0 : Nat) (E : Nat → Value → Prop) (outs : List (Tmp × Ty)) (w : World) : List Oper → Act → (Act → Prop) → Prop
  | [], a, K => K a
  | o :: r, a, K =>
    match o.dst.bind (envOf outs) with
    | some σ => if σ.k = 3 then ∀ z : Int, σ.lo ≤ z → z ≤ σ.hi → Puts R B0 E outs w r (a.put o.dst (.int .i64 z)) K else ∀ v, σ.ok R (XD R B0 E) TD w v → Puts R B0 E outs w r (a.put o.dst v) K
    | none => ∀ v, Puts R B0 E outs w r (a.put o.dst v) K
theorem puts_all {R B0 : Nat} {E : Nat → Value → Prop} {outs : List (Tmp × Ty)} {w : World} {K : Act → Prop} : ∀ (l : List Oper) (tys : List Ty) (a : Act), outsOk outs l tys = true → Puts R B0 E outs w l a K → AllPuts R (XD R B0 E) TD w (l.zip tys) a K
  | [], [], _, _, h => h
  | [], _ :: _, _, ho, _ => by simp [outsOk] at ho
  | _ :: _, [], _, ho, _ => by simp [outsOk] at ho
  | o :: l, τ :: ts, a, ho, h => by
    intro v hv
    simp only [outsOk, Bool.and_eq_true] at ho
    unfold Puts at h
    cases hd : o.dst.bind (envOf outs) with
    | none =>
      simp only [hd] at h
      exact puts_all l ts _ ho.2 (h v)
    | some σ =>
      simp only [hd] at h ho
      have hok := fits_ok ho.1 hv
      split at h
      · rename_i h3
        obtain ⟨z, rfl, z1, z2⟩ := of_ok_int hok h3
        exact puts_all l ts _ ho.2 (h z z1 z2)
      · exact puts_all l ts _ ho.2 (h v hok)

theorem ok_own {R B0 : Nat} {E : Nat → Value → Prop} {w : World} {v : Value} (k : Nat) (h : E k v) : (Ty.own (k + 1)).ok R (XD R B0 E) TD w v := by
  simp [Ty.ok, Ty.ok0, Ty.own, XD]
  exact h

/-- THE LAW AS THE WALKS TAKE IT: a whole region. -/
theorem draw_region {R B0 N : Nat} {E : Nat → Value → Prop} (L c M : Nat) (tbl : List (FuncId × (List Ty → Option Ty))) (htbl : AllSound L c tbl) (envL outs : List (Tmp × Ty)) (hB0 : B0 ≤ R) {id : Nat} {l : List Oper} {a : Act} {w : World} {Q : Exit → Act → World → Prop}
    (hB : (regionOk 29 3 tbl envL outs l && (onceB l && fitB a.tmps.size l && decide (l.length ≤ 1000)) && decide (c * l.length ≤ M)) = true)
    (hN : N + c * 1000 ≤ L) (hR : Rd w R N) (henv : EnvOk R B0 E w.drew a envL)
    (h : ∀ w', w.grownBy w' (some R) → Rd w' R (N + M) → Puts R B0 E outs w' l a (fun a' => Q .normal a' w')) : (Code.region id l.toArray true).wp Try.prog Q a w := by
  rw [Bool.and_eq_true, Bool.and_eq_true] at hB
  obtain ⟨⟨h1, h2⟩, hM⟩ := hB
  have hM' := of_decide_eq_true hM
  unfold regionOk at h1
  split at h1
  · rename_i tys htys
    exact wp_region_abs intTypes XD.keep (J := RdJ L c R N) RdJ.h1 RdJ.h2 RdJ.hR (sigOf_sound htbl hB0) (by kernel_rfl) htys h2 (envOf_ok henv) ⟨hR.drew, hN⟩
      fun w' hg hJ => puts_all _ _ _ h1 (h w' ⟨hg.os, hg.tape, hg.output, hg.size, hg.block⟩ (hJ.1.more (Nat.add_le_add_left hM' _)))
  · cases h1

/-- A region with a forced tail. -/
theorem draw_region_tail {R B0 N : Nat} {E : Nat → Value → Prop} (L c M : Nat) (tbl : List (FuncId × (List Ty → Option Ty))) (htbl : AllSound L c tbl) (envL outs : List (Tmp × Ty)) (hB0 : B0 ≤ R) (n : Nat) {id : Nat} {l : List Oper} {a : Act} {w : World} {Q : Exit → Act → World → Prop}
    (hB : (regionOk 29 3 tbl envL outs (l.take n) && (onceB (l.take n) && fitB a.tmps.size (l.take n) && decide (l.length ≤ 1000) && decide (n < l.length) && Region.sinkB .any l.toArray n && Region.chainB .any l.toArray n &&
      Region.seqB .any l.toArray (l.length - n) n (Array.replicate n true ++ Array.replicate (l.length - n) false)) && decide (c * n ≤ M)) = true)
    (hN : N + c * 1000 ≤ L) (hR : Rd w R N) (henv : EnvOk R B0 E w.drew a envL)
    (h : ∀ w', w.grownBy w' (some R) → Rd w' R (N + M) → Puts R B0 E outs w' (l.take n) a (fun a' => wpList Try.prog l.toArray Q (l.drop n) a' w')) : (Code.region id l.toArray true).wp Try.prog Q a w := by
  rw [Bool.and_eq_true, Bool.and_eq_true] at hB
  obtain ⟨⟨h1, h2⟩, hM⟩ := hB
  have hM' := of_decide_eq_true hM
  unfold regionOk at h1
  split at h1
  · rename_i tys htys
    exact wp_region_abs_tail intTypes XD.keep (J := RdJ L c R N) RdJ.h1 RdJ.h2 RdJ.hR (sigOf_sound htbl hB0) (by kernel_rfl) n htys h2 (envOf_ok henv) ⟨hR.drew, hN⟩
      fun w' hg hJ => puts_all _ _ _ h1 (h w' ⟨hg.os, hg.tape, hg.output, hg.size, hg.block⟩ (hJ.1.more (Nat.add_le_add_left hM' _)))
  · cases h1

/-- A region that does not draw: its first n operations. -/
theorem draw_seq {R B0 N : Nat} {E : Nat → Value → Prop} (L c M : Nat) (tbl : List (FuncId × (List Ty → Option Ty))) (htbl : AllSound L c tbl) (envL outs : List (Tmp × Ty)) (hB0 : B0 ≤ R) (n : Nat) {id : Nat} {l : List Oper} {a : Act} {w : World} {Q : Exit → Act → World → Prop}
    (hB : (regionOk 29 3 tbl envL outs (l.take n) && (onceB (l.take n) && fitB a.tmps.size (l.take n) && decide (l.length ≤ 1000) && decide (n ≤ l.length)) && decide (c * n ≤ M)) = true)
    (hN : N + c * 1000 ≤ L) (hR : Rd w R N) (henv : EnvOk R B0 E w a envL)
    (h : ∀ w', w.grownBy w' (some R) → Rd w' R (N + M) → Puts R B0 E outs w' (l.take n) a (fun a' => wpList Try.prog l.toArray Q (l.drop n) a' w')) : (Code.region id l.toArray false).wp Try.prog Q a w := by
  rw [Bool.and_eq_true, Bool.and_eq_true] at hB
  obtain ⟨⟨h1, h2⟩, hM⟩ := hB
  have hM' := of_decide_eq_true hM
  unfold regionOk at h1
  split at h1
  · rename_i tys htys
    exact wp_region_abs_seq intTypes XD.keep (J := RdJ L c R N) RdJ.h1 RdJ.h2 RdJ.hR (sigOf_sound htbl hB0) n htys h2 (envOf_ok henv) ⟨hR, hN⟩
      fun w' hg hJ => puts_all _ _ _ h1 (h w' hg (hJ.1.more (Nat.add_le_add_left hM' _)))
  · cases h1

theorem of_ok_own {R B0 : Nat} {E : Nat → Value → Prop} {w : World} {v : Value} {k : Nat} (h : (Ty.own (k + 1)).ok R (XD R B0 E) TD w v) : E k v := by
  simp [Ty.ok, Ty.ok0, Ty.own, XD] at h
  exact h
/-- One number laid as a list of its own. -/
theorem of_ok_one {R B0 : Nat} {E : Nat → Value → Prop} {w : World} {v : Value} {lo hi : Int} (h : Ty.ok R (XD R B0 E) TD w ⟨4, 1, lo, hi⟩ v) :
    ∃ g z, v = .slice (some ⟨g, 0, none⟩) 1 1 ∧ w.cell? ⟨g, 0, none⟩ = some (.int .i64 z) ∧ lo ≤ z ∧ z ≤ hi := by
  obtain ⟨g, hv, _, hc⟩ := of_ok_sl h rfl
  obtain ⟨z, hz, z1, z2⟩ := hc 0 (by show 0 < 1; omega)
  exact ⟨g, z, hv, hz, z1, z2⟩
theorem news_one {w : World} {g : Nat} {z : Int} (h : w.cell? ⟨g, 0, none⟩ = some (.int .i64 z)) : ∀ j u, [Value.int .i64 z][j]? = some u → w.cell? ((⟨g, 0, none⟩ : Addr).add j) = some u := by
  intro j u hj
  match j, hj with
  | 0, hj => simp at hj; subst hj; simpa [Addr.add] using h
theorem grown_own {w a b : World} {R : Nat} {row : Option Nat} (h : w.grownBy a (some R)) (k : a.grownBy b row) (hr : ∀ g, row = some g → w.heap.size ≤ g) : w.grownBy b (some R) :=
  ⟨k.os.trans h.os, k.tape.trans h.tape, k.output.trans h.output, Nat.le_trans h.size k.size, fun i hi hne => (k.block i (Nat.lt_of_lt_of_le hi h.size) (fun e => by have := hr i e.symm; omega)).trans (h.block i hi hne)⟩

/-! ### The rows of the table -/
def pickG : List Ty → Option Ty
  | [a, b] => if a.k = 1 ∧ b.k = 3 ∧ 1 ≤ b.lo then some (Ty.int 0 (b.hi - 1)) else none
  | _ => none
theorem enters {f : FuncId} {fn : Func} {c : Code} (hf : Try.prog.funcs[f]? = some fn) (hname : (fn.name == "runtime.NumGoroutine") = false) (hb : fn.body = some c) (args : Array Value) (w : World) :
    (callFunc f args).run Try.prog w = .ok (.enter f args) w := by
  have h1 : fn.name ≠ "runtime.NumGoroutine" := by simpa using hname
  simp [callFunc, hf, h1, hb]
theorem pick_sound (L c : Nat) (hL : L ≤ 1000000000000) (hc1 : 1 ≤ c) : Sound L c 41 pickG := by
  intro R B0 N E ts τ vs k w hg ha hB hJ hk
  unfold pickG at hg
  split at hg
  · rename_i a b
    split at hg
    · rename_i hc
      injection hg with hg
      subst hg
      match vs, ha with
      | [u, v], ha =>
        obtain rfl := of_ok_rd ha.1 hc.1
        obtain ⟨m, rfl, hm1, hm2⟩ := of_ok_int ha.2.1 hc.2.1
        refine ⟨fun w => enters Try.func41 (by kernel_rfl) rfl _ w, (pick_pos R (N + c * k) m w hJ.1 (by have := hJ.small hk; omega) (by omega)).mono ?_⟩
        rintro e w' ⟨z, rfl, z0, z1, hr, hgr⟩
        exact ⟨_, rfl, ok_int z0 (by omega), hJ.next hr hc1, hgr⟩
    · cases hg
  · cases hg

theorem gtrans {a b c : World} {row : Option Nat} (h : a.grownBy b row) (k : b.grownBy c row) : a.grownBy c row :=
  ⟨k.os.trans h.os, k.tape.trans h.tape, k.output.trans h.output, Nat.le_trans h.size k.size, fun i hi hne => (k.block i (Nat.lt_of_lt_of_le hi h.size) hne).trans (h.block i hi hne)⟩

end Go.Proofs.Ytfkccdmjlopleaa
