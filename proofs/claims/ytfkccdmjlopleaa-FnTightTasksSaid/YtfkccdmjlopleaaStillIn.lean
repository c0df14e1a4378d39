/- A region that draws its order, reads and one last store, in a round of a range over a function. -/
import Derived.Test.YtfkccdmjlopleaaRangeCt
import Derived.StillTail
import Derived.StillTailTactics
import Derived.OrdersIn
namespace Go.Proofs.Ytfkccdmjlopleaa
open Go.RowKit Go.Shelf

/-- It goes on. -/
def onlyN (Q : Exit → Act → World → Prop) : Exit → Act → World → Prop
  | .normal, a, w => Q .normal a w
  | _, _, _ => False
theorem onlyN_normal (Q : Exit → Act → World → Prop) (a : Act) (w : World) : onlyN Q .normal a w = Q .normal a w := rfl
theorem upon_in {P : Program} {r : Option Nat} {n : Nat} {o : Oper} {a : Act} {K : Act → World → Prop} {Q : Exit → Act → World → Prop} (l : Nat) (hr : r = some l) (x : Result Next)
    (h : o.upon P a K Q x) : o.uponIn { Fence.wide with round := r } n P a K Q x := by
  unfold Oper.upon at h
  unfold Oper.uponIn
  split at h
  · exact h
  · exact h
  · exact h
  · exact ⟨fun h => by simp [Fence.wide] at h, callsIn_wide.2 h⟩
  · exact ⟨fun h => by simp [Fence.wide] at h, fun c cs _ => let ⟨v, w', r', s⟩ := h c cs; ⟨v, w', r', stepsIn_wide.2 s⟩⟩
  · exact h
  · exact h.elim
theorem any_in {P : Program} {md : Region.Mode} {ops : Array Oper} {n : Nat} (r : Nat) {Q : Exit → Act → World → Prop} (hQ : ¬ LetsOut Q) (hd : ∀ (i : Nat) (o : Oper), ops[i]? = some o → ∀ c, o.op ≠ .defer c) :
    ∀ (fuel : Nat) (listed : Array Bool) (a : Act) (w : World), wpAny P md ops Q fuel listed a w → wpAnyIn (Fence.wide.inRound r) n P md ops Q fuel listed a w
  | 0, _, _, _, h => h
  | fuel + 1, listed, a, w, h => ⟨h.1, fun i hi => by
    have h2 := h.2 i hi
    unfold wpOp at h2
    unfold wpOpIn
    cases ho : ops[i]? with
    | none =>
      rw [ho] at h2
      exact any_in r hQ hd fuel _ a w h2
    | some o =>
      rw [ho] at h2
      dsimp only at h2 ⊢
      split
      · rename_i hw
        rw [if_pos hw] at h2
        rcases h2 with h2 | h2
        · refine ⟨fun f _ => trivial, ?_⟩
          rw [Oper.semAt_eq _ _ _ (hd i o ho)]
          exact upon_in r rfl _ (Oper.wp_mono (fun a w h => any_in r hQ hd fuel _ a w h) h2)
        · exact absurd h2.2 hQ
      · rename_i hw
        rw [if_neg hw] at h2
        exact ⟨fun f _ => trivial, any_in r hQ hd fuel _ _ w h2⟩⟩
theorem region_still_in {P : Program} {id r m : Nat} {Q : Exit → Act → World → Prop} {a : Act} {w : World} {l : List Oper} (n : Nat) (hm : P.follows .mixedOrders = true) (hB : Region.lexTailB .any l.toArray n = true)
    (hd : ∀ o ∈ l, ∀ c, o.op ≠ .defer c)
    (h : wpStill P l.toArray { w with drawn := w.drawn + 1 } (fun a' => wpList P l.toArray (onlyN Q) (l.drop n) a' { w with drawn := w.drawn + 1 }) (l.take n) a) : (Code.region id l.toArray true).wpIn (Fence.wide.inRound r) m P Q a w := by
  simp only [Region.lexTailB, Bool.and_eq_true, decide_eq_true_eq] at hB
  obtain ⟨⟨⟨⟨hsel, hn⟩, hs⟩, hc⟩, hlex⟩ := hB
  have htl : (l.take n).length = n := by simp at hn ⊢; omega
  have hdl : (l.drop n).length = l.toArray.size - n := by simp
  have inv0 : HeadInv .any l.toArray n (Array.replicate l.toArray.size false) :=
    ⟨by simp, fun j oj _ hl => (by rw [getD_replicate_false] at hl; cases hl), fun t _ ht => getD_in (by simpa using ht) (getD_replicate_false _ _)⟩
  have H := wpAnyL_lex (md := .any) (g := l.toArray.size - n) hsel hs hc hn (l.take n) 0 _ a (fun j hj => by
    have hj' : j < n := by rw [htl] at hj; exact hj
    simp [hj']) (by simpa using htl) inv0 (by rw [htl]; exact hlex) h
  have h3 := wpAny_of_head (Q' := onlyN Q) (g := l.toArray.size - n) (fun listed a' hL => by
    have := wpAny_of_seq (md := .any) (Q' := onlyN Q) (l.drop n) n listed a' { w with drawn := w.drawn + 1 } (fun j => by simp [List.getElem?_drop]) (by rw [hdl]; exact hL.1) hL.2
    rwa [hdl] at this) _ _ _ H
  rw [htl, show n + (l.toArray.size - n) = l.toArray.size by simp at hn ⊢; omega] at h3
  refine wpIn_mono (Q := onlyN Q) ?_ (fun e a w h => by cases e <;> first | exact h | exact h.elim)
  exact wpIn_region_any hm (any_in r (fun ⟨_, _, h⟩ => h) (fun i o ho => hd o (by
    rw [List.getElem?_toArray] at ho
    exact List.mem_of_getElem? ho)) _ _ _ _ h3)
end Go.Proofs.Ytfkccdmjlopleaa
