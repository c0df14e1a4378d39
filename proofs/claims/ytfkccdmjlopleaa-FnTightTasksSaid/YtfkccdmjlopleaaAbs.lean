/- Regions that draw their order, reckoned over the slots' kinds: abs tells of each operation of which kind its result is; wp_region_abs: the region ends with every slot of its kind, whatever the order. -/
import Derived.Test.YtfkccdmjlopleaaInv
import Derived.Test.YtfkccdmjlopleaaMem
namespace Go.Proofs.Ytfkccdmjlopleaa
open Go.RowKit

/-- A kind of value. k: 0 anything, 1 the reader's address, 2 a bool, 3 a number in lo..hi, 4 a slice of n numbers in lo..hi, 5 the address of such a number, 6 the n-th table of kinds as a tuple, 10 and up: the caller's own. -/
structure Ty where
  k : Nat
  n : Nat
  lo : Int
  hi : Int

def Ty.int (lo hi : Int) : Ty := ⟨3, 0, lo, hi⟩
def Ty.rd : Ty := ⟨1, 0, 0, 0⟩
def Ty.own (k : Nat) : Ty := ⟨k + 10, 0, 0, 0⟩

/-- The types of structs whose field 2 may be loaded by its address. -/
def matT (_ : TypeId) : Bool := false
/-- Types of structs of six cells that may be loaded by their address. -/
def smatT (_ : TypeId) : Bool := false
/-- What a value of the kind is, tuples aside. (7: the address of a struct of the call's own whose field 2 is of the own kind n; 8: that field's address. 9: the address of a struct of the call's own whose value is of the own kind n: of six cells where lo is 1, else of three.) -/
def Ty.ok0 (R : Nat) (X : Nat → World → Value → Prop) (w : World) (τ : Ty) (v : Value) : Prop :=
  if τ.k = 1 then v = .pointer (some ⟨R, 0, none⟩)
  else if τ.k = 2 then ∃ b, v = .bool b
  else if τ.k = 3 then ∃ z, v = .int .i64 z ∧ τ.lo ≤ z ∧ z ≤ τ.hi
  else if τ.k = 4 then ∃ g, v = .slice (some ⟨g, 0, none⟩) τ.n τ.n ∧ R < g ∧ ∀ j, j < τ.n → ∃ z, w.cell? ⟨g, j, none⟩ = some (.int .i64 z) ∧ τ.lo ≤ z ∧ z ≤ τ.hi
  else if τ.k = 5 then ∃ g o z, v = .pointer (some ⟨g, o, none⟩) ∧ R < g ∧ w.cell? ⟨g, o, none⟩ = some (.int .i64 z) ∧ τ.lo ≤ z ∧ z ≤ τ.hi
  else if τ.k = 7 then ∃ g u, v = .pointer (some ⟨g, 0, none⟩) ∧ R < g ∧ w.cell? ⟨g, 2, none⟩ = some u ∧ X τ.n w u
  else if τ.k = 8 then ∃ g u, v = .pointer (some ⟨g, 2, none⟩) ∧ R < g ∧ w.cell? ⟨g, 2, none⟩ = some u ∧ X τ.n w u
  else if τ.k = 9 ∧ τ.lo = 1 then ∃ g x0 x1 x2 x3 x4 x5, v = .pointer (some ⟨g, 0, none⟩) ∧ R < g ∧ w.cell? ⟨g, 0, none⟩ = some x0 ∧ w.cell? ⟨g, 1, none⟩ = some x1 ∧ w.cell? ⟨g, 2, none⟩ = some x2 ∧ w.cell? ⟨g, 3, none⟩ = some x3 ∧ w.cell? ⟨g, 4, none⟩ = some x4 ∧ w.cell? ⟨g, 5, none⟩ = some x5 ∧ X τ.n w (.agg #[x0, x1, x2, x3, x4, x5])
  else if τ.k = 9 then ∃ g x y z, v = .pointer (some ⟨g, 0, none⟩) ∧ R < g ∧ w.cell? ⟨g, 0, none⟩ = some x ∧ w.cell? ⟨g, 1, none⟩ = some y ∧ w.cell? ⟨g, 2, none⟩ = some z ∧ X τ.n w (.agg #[x, y, z])
  else if 10 ≤ τ.k then X (τ.k - 10) w v
  else True

/-- Values of kinds, one by one. -/
def oks (R : Nat) (X : Nat → World → Value → Prop) (w : World) : List Ty → List Value → Prop
  | [], [] => True
  | τ :: ts, v :: vs => τ.ok0 R X w v ∧ oks R X w ts vs
  | _, _ => False

def Ty.ok (R : Nat) (X : Nat → World → Value → Prop) (T : Nat → List Ty) (w : World) (τ : Ty) (v : Value) : Prop :=
  if τ.k = 6 then ∃ vs, v = .tuple vs.toArray ∧ oks R X w (T τ.n) vs else τ.ok0 R X w v

section
variable {R : Nat} {X : Nat → World → Value → Prop} {T : Nat → List Ty}
theorem Ty.ok0_row {row : Option Nat} (hrow : ∀ b, row = some b → b ≤ R) (hX : ∀ k w w' v, X k w v → w.grownBy w' row → X k w' v) {w w' : World} {τ : Ty} {v : Value} (h : τ.ok0 R X w v) (hg : w.grownBy w' row) : τ.ok0 R X w' v := by
  unfold Ty.ok0 at h ⊢
  split
  · rename_i h1; rw [if_pos h1] at h; exact h
  rename_i h1; rw [if_neg h1] at h
  split
  · rename_i h1; rw [if_pos h1] at h; exact h
  rename_i h1; rw [if_neg h1] at h
  split
  · rename_i h1; rw [if_pos h1] at h; exact h
  rename_i h1; rw [if_neg h1] at h
  split
  · rename_i h1
    rw [if_pos h1] at h
    obtain ⟨g, hv, hne, hc⟩ := h
    refine ⟨g, hv, hne, fun j hj => ?_⟩
    obtain ⟨z, hz, hr⟩ := hc j hj
    exact ⟨z, hg.cell hz (fun e => Nat.lt_irrefl _ (Nat.lt_of_lt_of_le hne (hrow _ e.symm))), hr⟩
  rename_i h1; rw [if_neg h1] at h
  split
  · rename_i h1
    rw [if_pos h1] at h
    obtain ⟨g, o, z, hv, hne, hz, hr⟩ := h
    exact ⟨g, o, z, hv, hne, hg.cell hz (fun e => Nat.lt_irrefl _ (Nat.lt_of_lt_of_le hne (hrow _ e.symm))), hr⟩
  rename_i h1; rw [if_neg h1] at h
  split
  · rename_i h1
    rw [if_pos h1] at h
    obtain ⟨g, u, hv, hne, hz, hr⟩ := h
    exact ⟨g, u, hv, hne, hg.cell hz (fun e => Nat.lt_irrefl _ (Nat.lt_of_lt_of_le hne (hrow _ e.symm))), hX _ _ _ _ hr hg⟩
  rename_i h1; rw [if_neg h1] at h
  split
  · rename_i h1
    rw [if_pos h1] at h
    obtain ⟨g, u, hv, hne, hz, hr⟩ := h
    exact ⟨g, u, hv, hne, hg.cell hz (fun e => Nat.lt_irrefl _ (Nat.lt_of_lt_of_le hne (hrow _ e.symm))), hX _ _ _ _ hr hg⟩
  rename_i h1; rw [if_neg h1] at h
  split
  · rename_i h1
    rw [if_pos h1] at h
    obtain ⟨g, x0, x1, x2, x3, x4, x5, hv, hne, c0, c1, c2, c3, c4, c5, hr⟩ := h
    exact ⟨g, x0, x1, x2, x3, x4, x5, hv, hne, hg.cell c0 (fun e => Nat.lt_irrefl _ (Nat.lt_of_lt_of_le hne (hrow _ e.symm))), hg.cell c1 (fun e => Nat.lt_irrefl _ (Nat.lt_of_lt_of_le hne (hrow _ e.symm))), hg.cell c2 (fun e => Nat.lt_irrefl _ (Nat.lt_of_lt_of_le hne (hrow _ e.symm))), hg.cell c3 (fun e => Nat.lt_irrefl _ (Nat.lt_of_lt_of_le hne (hrow _ e.symm))), hg.cell c4 (fun e => Nat.lt_irrefl _ (Nat.lt_of_lt_of_le hne (hrow _ e.symm))), hg.cell c5 (fun e => Nat.lt_irrefl _ (Nat.lt_of_lt_of_le hne (hrow _ e.symm))), hX _ _ _ _ hr hg⟩
  rename_i h1; rw [if_neg h1] at h
  split
  · rename_i h1
    rw [if_pos h1] at h
    obtain ⟨g, x, y, z, hv, hne, h0, h1, h2, hr⟩ := h
    exact ⟨g, x, y, z, hv, hne, hg.cell h0 (fun e => Nat.lt_irrefl _ (Nat.lt_of_lt_of_le hne (hrow _ e.symm))), hg.cell h1 (fun e => Nat.lt_irrefl _ (Nat.lt_of_lt_of_le hne (hrow _ e.symm))), hg.cell h2 (fun e => Nat.lt_irrefl _ (Nat.lt_of_lt_of_le hne (hrow _ e.symm))), hX _ _ _ _ hr hg⟩
  rename_i h1; rw [if_neg h1] at h
  split
  · rename_i h1; rw [if_pos h1] at h; exact hX _ _ _ _ h hg
  trivial
theorem oks_row {row : Option Nat} (hrow : ∀ b, row = some b → b ≤ R) (hX : ∀ k w w' v, X k w v → w.grownBy w' row → X k w' v) {w w' : World} (hg : w.grownBy w' row) : ∀ {ts : List Ty} {vs : List Value}, oks R X w ts vs → oks R X w' ts vs
  | [], [], _ => trivial
  | _ :: _, _ :: _, h => ⟨Ty.ok0_row hrow hX h.1 hg, oks_row hrow hX hg h.2⟩
  | [], _ :: _, h => h.elim
  | _ :: _, [], h => h.elim
theorem Ty.ok_row {row : Option Nat} (hrow : ∀ b, row = some b → b ≤ R) (hX : ∀ k w w' v, X k w v → w.grownBy w' row → X k w' v) {w w' : World} {τ : Ty} {v : Value} (h : τ.ok R X T w v) (hg : w.grownBy w' row) : τ.ok R X T w' v := by
  unfold Ty.ok at h ⊢
  split
  · rename_i h1
    rw [if_pos h1] at h
    obtain ⟨vs, hv, hvs⟩ := h
    exact ⟨vs, hv, oks_row hrow hX hg hvs⟩
  · rename_i h1; rw [if_neg h1] at h; exact Ty.ok0_row hrow hX h hg
theorem Ty.ok_keep (hX : ∀ k w w' v, X k w v → w.grownBy w' (some R) → X k w' v) {w w' : World} {τ : Ty} {v : Value} (h : τ.ok R X T w v) (hg : w.grownBy w' (some R)) : τ.ok R X T w' v :=
  Ty.ok_row (fun b e => by cases e; exact Nat.le_refl _) hX h hg
end

/-! ### The reckoning -/
def absX (G : Tmp → Option Ty) : Operand → Option Ty
  | .tmp t => G t
  | .const (.int .i64 z) => some (.int z z)
  | .const (.bool _) => some ⟨2, 0, 0, 0⟩
  | _ => none

def inW64 (lo hi : Int) : Bool := decide (-9223372036854775808 ≤ lo) && decide (hi ≤ 9223372036854775807)
def min4 (a b c d : Int) : Int := min (min a b) (min c d)
def max4 (a b c d : Int) : Int := max (max a b) (max c d)

def absArith (op : BinOp) (a b : Ty) : Option Ty :=
  match op with
  | .add => if inW64 (a.lo + b.lo) (a.hi + b.hi) then some (.int (a.lo + b.lo) (a.hi + b.hi)) else none
  | .sub => if inW64 (a.lo - b.hi) (a.hi - b.lo) then some (.int (a.lo - b.hi) (a.hi - b.lo)) else none
  | .mul => if decide (0 ≤ b.lo) && decide (b.lo = b.hi) && inW64 (a.lo * b.lo) (a.hi * b.lo) then some (.int (a.lo * b.lo) (a.hi * b.lo)) 
            else if decide (0 ≤ a.lo) && decide (0 ≤ b.lo) && inW64 0 (a.hi * b.hi) then some (.int (a.lo * b.lo) (a.hi * b.hi)) else none
  | .quo => if decide (0 ≤ a.lo) && decide (1 ≤ b.lo) && decide (a.hi ≤ 9223372036854775807) then some (.int (a.lo / b.hi) (a.hi / b.lo)) else none
  | .rem => if decide (0 ≤ a.lo) && decide (1 ≤ b.lo) then some (.int 0 (b.hi - 1)) else none
  | .eql | .neq | .lss | .leq | .gtr | .geq => some ⟨2, 0, 0, 0⟩
  | _ => none

def absParts (G : Tmp → Option Ty) : Nat → List (Nat × Operand) → Option (Int × Int)
  | _, [] => none
  | i, (j, x) :: rest =>
    match absX G x with
    | some a =>
      if a.k = 3 ∧ j = i then
        match rest with
        | [] => some (a.lo, a.hi)
        | _ :: _ =>
          match absParts G (i + 1) rest with
          | some b => some (min a.lo b.1, max a.hi b.2)
          | none => none
      else none
    | none => none

def absArgs (G : Tmp → Option Ty) : List Operand → Option (List Ty)
  | [] => some []
  | x :: xs =>
    match absX G x, absArgs G xs with
    | some a, some as => some (a :: as)
    | _, _ => none

def absOp (tS tI : TypeId) (T : Nat → List Ty) (sig : FuncId → List Ty → Option Ty) (G : Tmp → Option Ty) (o : Oper) : Option Ty :=
  match o.op with
  | .move x => absX G x
  | .assign x => absX G x
  | .binOp op _ x y _ =>
    match absX G x, absX G y with
    | some a, some b => if a.k = 3 ∧ b.k = 3 then absArith op a b else none
    | _, _ => none
  | .buildSlice t len parts =>
    if t = tS ∧ parts.size = len ∧ len ≤ 1000 then
      match absParts G 0 parts.toList with
      | some b => some ⟨4, len, b.1, b.2⟩
      | none => none
    else none
  | .indexAddr t x i =>
    match absX G x, absX G i with
    | some a, some b => if t = tS ∧ a.k = 4 ∧ b.k = 3 ∧ 0 ≤ b.lo ∧ b.hi < a.n then some ⟨5, 0, a.lo, a.hi⟩ else none
    | _, _ => none
  | .load t p =>
    match absX G p with
    | some a => if t = tI ∧ a.k = 5 then some (.int a.lo a.hi) else if t = tS ∧ a.k = 8 then some (Ty.own a.n) else if matT t = true ∧ a.k = 9 ∧ ¬ a.lo = 1 then some (Ty.own a.n) else if smatT t = true ∧ a.k = 9 ∧ a.lo = 1 then some (Ty.own a.n) else none
    | none => none
  | .fieldAddr t x i =>
    match absX G x with
    | some a => if matT t = true ∧ i = 2 ∧ a.k = 7 then some ⟨8, a.n, 0, 0⟩ else none
    | none => none
  | .nilCheck x =>
    match absX G x with
    | some a => if a.k = 1 then some a else none
    | none => none
  | .call c =>
    match c.callee with
    | .value (.func f) =>
      match absArgs G c.args.toList with
      | some ts => sig f ts
      | none => none
    | .builtin .min =>
      match absArgs G c.args.toList with
      | some [a, b] => if a.k = 3 ∧ b.k = 3 then some (.int (min a.lo b.lo) (min a.hi b.hi)) else none
      | _ => none
    | .builtin .max =>
      match absArgs G c.args.toList with
      | some [a, b] => if a.k = 3 ∧ b.k = 3 then some (.int (max a.lo b.lo) (max a.hi b.hi)) else none
      | _ => none
    | _ => none
  | .extract x i =>
    match absX G x with
    | some a =>
      if a.k = 6 then
        match (T a.n)[i]? with
        | some τ => if τ.k = 6 then none else some τ
        | none => none
      else none
    | none => none
  | _ => none

/-- The kind of a temporary as operation o sees it: of the operation that it waits for, or, if none writes it, of the frame ahead of the region. -/
def seen (ops : List Oper) (tys : List Ty) (env : Tmp → Option Ty) (o : Oper) (t : Tmp) : Option Ty :=
  match o.after.toList.find? (fun e => Region.binds .any e && ((ops[e.on]?).bind (·.dst) == some t)) with
  | some e => tys[e.on]?
  | none => if ops.any (fun o' => o'.dst == some t) then none else env t

def absGo (tS tI : TypeId) (T : Nat → List Ty) (sig : FuncId → List Ty → Option Ty) (env : Tmp → Option Ty) (ops : List Oper) : List Oper → List Ty → Option (List Ty)
  | [], tys => some tys
  | o :: rest, tys =>
    if o.guard.isNone && o.after.toList.all (fun e => !Region.binds .any e || decide (e.on < tys.length)) then
      match absOp tS tI T sig (seen ops tys env o) o with
      | some τ => absGo tS tI T sig env ops rest (tys ++ [τ])
      | none => none
    else none

/-- No temporary is written twice. -/
def onceB : List Oper → Bool
  | [] => true
  | o :: rest => (match o.dst with | some d => !rest.any (fun o' => o'.dst == some d) | none => true) && onceB rest
end Go.Proofs.Ytfkccdmjlopleaa
