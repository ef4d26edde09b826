/- A region that draws its order and only reads, in a round of a range over a function: one order serves for all; no condition. -/
import Derived.Test.YtmkojmjjlcfohaaProg
import Derived.Sort.QuietIn
set_option linter.unusedVariables false
set_option linter.unusedSimpArgs false
namespace Go.Proofs.Ytmkojmjjlcfohaa.Rq
open Go
def undeferred (o : Oper) : Bool := match o.op with | .defer _ => false | _ => true
theorem not_defer {o : Oper} (h : undeferred o = true) : ∀ c, o.op ≠ .defer c := fun c e => by
  unfold undeferred at h
  rw [e] at h
  cases h
section
variable {n : Nat} {P : Program} {l : Nat}
theorem uponIn_round' (o : Oper) (a : Act) (K : Act → World → Prop) (Q : Exit → Act → World → Prop) (r : Result Next) (h : o.uponIn Fence.wide n P a K Q r) : o.uponIn (Fence.wide.inRound l) n P a K Q r := by
  cases r with
  | ok x w => cases x <;> exact h
  | halt x w => cases x <;> exact h
theorem opIn_round {o : Oper} (hd : undeferred o = true) {a : Act} {w : World} {K : Act → World → Prop} {Q : Exit → Act → World → Prop} (h : o.wpIn Fence.wide n P a w K Q) : o.wpIn (Fence.wide.inRound l) n P a w K Q := by
  obtain ⟨h1, h2⟩ := h
  refine ⟨h1, ?_⟩
  rw [Oper.semAt_eq _ _ _ (not_defer hd)] at h2 ⊢
  exact uponIn_round' o a K Q _ h2
theorem anyIn_round {md : Region.Mode} {ops : Array Oper} {Q : Exit → Act → World → Prop} (hd : ∀ (i : Nat) (o : Oper), ops[i]? = some o → undeferred o = true) : ∀ (fuel : Nat) (listed : Array Bool) (a : Act) (w : World), wpAnyIn Fence.wide n P md ops Q fuel listed a w → wpAnyIn (Fence.wide.inRound l) n P md ops Q fuel listed a w
  | 0, _, _, _, h => h
  | fuel + 1, listed, a, w, h => ⟨h.1, fun i hi => by
      have h2 := h.2 i hi
      unfold wpOpIn at h2 ⊢
      cases ho : ops[i]? with
      | none => rw [ho] at h2; exact anyIn_round hd fuel _ _ _ h2
      | some o =>
        rw [ho] at h2
        simp only at h2 ⊢
        split at h2
        · rename_i hw
          rw [if_pos hw]
          exact opIn_round (hd i o ho) (Oper.wpIn_mono (fun a' w' hh => anyIn_round hd fuel _ _ _ hh) h2)
        · rename_i hw
          rw [if_neg hw]
          exact ⟨h2.1, anyIn_round hd fuel _ _ _ h2.2⟩⟩
theorem wpIn_quiet_round {id : Nat} {Q : Exit → Act → World → Prop} {a : Act} {w : World} {ls : List Oper} (hm : P.follows .mixedOrders = true) (hB : Region.lexB .any ls.toArray = true) (hd : ls.all undeferred = true)
    (h : wpQuietIn Fence.wide n P ls.toArray (fun w' => ∃ k, w' = w.drewN k) (fun a' => ∀ w', (∃ k, w' = w.drewN k) → Q .normal a' w') ls a) : (Code.region id ls.toArray true).wpIn (Fence.wide.inRound l) n P Q a w := by
  have hB' := hB
  simp only [Region.lexB, Bool.and_eq_true] at hB'
  refine wpIn_region_any hm (anyIn_round (fun i o ho => ?_) _ _ _ _ (wpAnyIn_of_quiet (F := Fence.wide) (C := fun w' => ∃ k, w' = w.drewN k) (Q := fun a' => ∀ w', (∃ k, w' = w.drewN k) → Q .normal a' w') rfl (fun _ w' hw' h => h w' hw') _ _ _ _ ⟨1, rfl⟩ ?_))
  · have hm := Array.mem_of_getElem? ho
    exact List.all_eq_true.1 hd o (by simpa using hm)
  · have := wpAnyQIn_lex (F := Fence.wide) (n := n) (C := fun w' => ∃ k, w' = w.drewN k) (md := .any) hB'.1 ls.toArray.toList 0 (Array.replicate ls.toArray.size false) a (by simp) (by simpa using hB'.2) (by simpa using h)
    simpa using this
end
end Go.Proofs.Ytmkojmjjlcfohaa.Rq
