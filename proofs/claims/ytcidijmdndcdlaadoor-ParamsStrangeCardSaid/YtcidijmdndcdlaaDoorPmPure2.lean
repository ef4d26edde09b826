/- Parameters (layer 3) in plain Lean: what is read may be put; bytes; the one parameter of the defaults; strangers; the pieces of what is put; no condition. -/
import Derived.Test.YtcidijmdndcdlaaDoorPmPure
set_option linter.unusedVariables false
set_option linter.unusedSimpArgs false
namespace Go.Proofs.YtcidijmdndcdlaaDoor.Pm
variable {enc : Int → List Int} {dec : List Int → Int → Int × Int × Int}
abbrev Byt (xs : List Int) : Prop := ∀ x ∈ xs, 0 ≤ x ∧ x < 256
theorem lk_in {es : List Ent} {id : Int} {v : List Int} (h : lk es id = some v) : (id, v) ∈ es := by
  unfold lk at h
  rw [Option.map_eq_some_iff] at h
  obtain ⟨e, he, rfl⟩ := h
  have h1 := List.mem_of_find?_eq_some he
  have h2 : e.1 = id := by simpa using List.find?_some he
  rw [← h2]; exact h1
theorem okE_num {server : Bool} {k : Nat} (hk : k < 12) {v : List Int} (h : okE dec server (fid k, v) = true) : fleast k ≤ (dec v 0).1 ∧ (dec v 0).1 ≤ fmost k := by
  unfold okE at h
  simp only [fidx_fid k hk] at h
  split at h
  · cases h
  · unfold numOk may at h
    simp only [Bool.and_eq_true, decide_eq_true_eq] at h
    exact h.2
theorem build_nk (es : List Ent) {k : Nat} (hk : k < 12) : (build dec es).nk k = match lk es (fid k) with | some v => (dec v 0).1 | none => fnone k := by
  unfold Pm.nk build
  simp only
  rw [List.getD_eq_getElem?_getD, List.getElem?_map, List.getElem?_range hk]
  rfl
/-- What is built of entries that may be can be put. -/
theorem built_ok (server : Bool) (es : List Ent) (ho : ∀ e ∈ es, okE dec server e = true ∧ Byt e.2) : (build dec es).Ok ∧ (build dec es).check server = true := by
  have hb : ∀ id, Byt ((lk es id).getD []) := fun id => by
    cases h : lk es id with
    | none => intro x hx; cases hx
    | some v => exact (ho _ (lk_in h)).2
  have hl : ∀ id, (id = 0 ∨ id = 15 ∨ id = 16) → ((lk es id).getD []).length ≤ 20 := fun id hid => by
    cases h : lk es id with
    | none => simp
    | some v =>
      have := (ho _ (lk_in h)).1
      unfold okE at this
      simp only [Option.getD_some]
      split at this
      · cases this
      · rcases hid with rfl | rfl | rfl
        · rw [fidx_none_odd.1] at this; simpa using this
        · rw [fidx_none_odd.2.2.2.1] at this; simpa using this
        · rw [fidx_none_odd.2.2.2.2] at this; simpa using this
  have h2 : ∀ v, lk es 2 = some v → v.length = 16 ∧ Byt v := fun v h => by
    have := ho _ (lk_in h)
    refine ⟨?_, this.2⟩
    have h1 := this.1
    unfold okE at h1
    split at h1
    · cases h1
    · simp only [fidx_none_odd.2.1] at h1; simpa using h1
  have hr : ((lk es 2).getD zeros).length = 16 ∧ Byt ((lk es 2).getD zeros) := by
    cases h : lk es 2 with
    | none => exact ⟨rfl, fun x hx => by
        have : x = 0 := by simpa [zeros] using hx
        omega⟩
    | some v => exact h2 v h
  refine ⟨⟨by simp [build], hr.1, hb 0, hb 15, hb 16, hr.2⟩, ?_⟩
  refine check_of (fun k hk => ?_) (hl 0 (.inl rfl)) (hl 15 (.inr (.inl rfl))) (hl 16 (.inr (.inr rfl))) (fun hs => ?_) (fun ha => ?_) (fun hr => ?_)
  · rw [build_nk es hk]
    cases h : lk es (fid k) with
    | none => exact dflt_ok k hk
    | some v => exact okE_num hk (ho _ (lk_in h)).1
  · subst hs
    have hno : ∀ id, (id = 0 ∨ id = 2 ∨ id = 16) → lk es id = none := fun id hid => by
      cases h : lk es id with
      | none => rfl
      | some v =>
        have := (ho _ (lk_in h)).1
        unfold okE at this
        rcases hid with rfl | rfl | rfl <;> simp at this
    unfold build
    simp only [hno 0 (.inl rfl), hno 2 (.inr (.inl rfl)), hno 16 (.inr (.inr rfl))]
    exact ⟨rfl, rfl, rfl⟩
  · unfold build at ha ⊢
    simp only at ha ⊢
    cases h : lk es 16 with
    | none => rfl
    | some v => rw [h] at ha; cases ha
  · unfold build at hr ⊢
    simp only at hr ⊢
    cases h : lk es 2 with
    | none => rfl
    | some v => rw [h] at hr; cases hr
theorem read_good (H : Codec enc dec) (server : Bool) (f : Nat) (b : List Int) (q : Pm) (hb : Byt b) (hf : b.length < f) (h : read dec server f b [] dflt = (0, q)) : q.Ok ∧ q.check server = true := by
  obtain ⟨es, _, ho, rfl⟩ := read_built H server f b [] q hb hf List.nodup_nil (fun e he => by cases he) h
  exact built_ok server es ho
/-- What is put are bytes. -/
theorem lay_bytes (H : Codec enc dec) {e : Ent} (h0 : 0 ≤ e.1) (h1 : e.1 ≤ top) (hl : (e.2.length : Int) ≤ top) (hb : Byt e.2) : Byt (layE enc e) := by
  intro x hx
  unfold layE at hx
  rw [List.mem_append, List.mem_append] at hx
  rcases hx with (hx | hx) | hx
  · exact H.byte _ h0 h1 x hx
  · exact H.byte _ (by omega) hl x hx
  · exact hb x hx
theorem flat_bytes (H : Codec enc dec) (es : List Ent) (h : ∀ e ∈ es, 0 ≤ e.1 ∧ e.1 ≤ top ∧ (e.2.length : Int) ≤ top ∧ Byt e.2) : Byt (flat enc es) := by
  intro x hx
  unfold flat at hx
  rw [List.mem_flatten] at hx
  obtain ⟨l, hl, hx⟩ := hx
  rw [List.mem_map] at hl
  obtain ⟨e, he, rfl⟩ := hl
  obtain ⟨a, b, c, d⟩ := h e he
  exact lay_bytes H a b c d x hx
theorem said_bytes (H : Codec enc dec) {p : Pm} {server : Bool} (hp : p.Ok) (hc : p.check server = true) {id : Int} {v : List Int} (h : said enc p server id = some v) : Byt v := by
  obtain ⟨c1, _⟩ := check_true hc
  unfold said at h
  split at h
  · split at h
    · obtain rfl := Option.some.inj h; exact hp.bo
    · cases h
  split at h
  · split at h
    · obtain rfl := Option.some.inj h; exact hp.br
    · cases h
  split at h
  · split at h
    · obtain rfl := Option.some.inj h; intro x hx; cases hx
    · cases h
  split at h
  · obtain rfl := Option.some.inj h; exact hp.bf
  split at h
  · split at h
    · obtain rfl := Option.some.inj h; exact hp.ba
    · cases h
  cases hx : fidx id with
  | none => rw [hx] at h; simp at h
  | some k =>
    rw [hx] at h
    simp only at h
    obtain ⟨hk, _⟩ := fidx_some hx
    have a := c1 k hk
    have b := fmost_top k hk
    split at h
    · cases h
    · obtain rfl := Option.some.inj h
      exact H.byte _ (by omega) (by omega)
theorem entries_all (H : Codec enc dec) {p : Pm} {server : Bool} (hp : p.Ok) (hc : p.check server = true) : ∀ e ∈ entries enc p server, okE dec server e = true ∧ 0 ≤ e.1 ∧ e.1 ≤ top ∧ (e.2.length : Int) ≤ top ∧ Byt e.2 ∧ e.1 < 33 := by
  intro e he
  obtain ⟨a, b, c, d⟩ := entries_ok H hp hc e he
  obtain ⟨id, v⟩ := e
  obtain ⟨h0, h1, hs⟩ := entries_mem.1 he
  exact ⟨a, b, c, d, said_bytes H hp hc hs, h1⟩
theorem put_bytes (H : Codec enc dec) {p : Pm} {server : Bool} (hp : p.Ok) (hc : p.check server = true) : Byt (put enc p server) :=
  flat_bytes H _ (fun e he => by obtain ⟨_, b, c, d, f, _⟩ := entries_all H hp hc e he; exact ⟨b, c, d, f⟩)
theorem dflt_check : dflt.check false = true := by decide
theorem dflt_Ok : dflt.Ok := ⟨rfl, rfl, (fun x hx => by cases hx), (fun x hx => by cases hx), (fun x hx => by cases hx), (fun x hx => by
  have : x = 0 := by simpa [dflt, zeros] using hx
  omega)⟩
theorem fm_congr {f g : Int → Option Ent} : ∀ l : List Int, (∀ x ∈ l, f x = g x) → l.filterMap f = l.filterMap g
  | [], _ => rfl
  | a :: l, h => by rw [List.filterMap_cons, List.filterMap_cons, h a List.mem_cons_self, fm_congr l (fun x hx => h x (List.mem_cons_of_mem _ hx))]
theorem dflt_entries (H : Codec enc dec) : entries enc dflt false = [(15, [])] := by
  have key : ∀ id ∈ ids, said enc dflt false id = if id = 15 then some [] else none := by
    intro id hid
    unfold said
    have h0 : dflt.hasReset = false := rfl
    have h1 : dflt.still = false := rfl
    have h2 : dflt.hasAgain = false := rfl
    have h3 : dflt.first = [] := rfl
    rw [h0, h1, h2, h3]
    by_cases e : id = 15
    · subst e; rfl
    · simp only [Bool.false_eq_true, if_false, if_neg e]
      have hall : ∀ k, k < 12 → dflt.nk k = fnone k := by decide
      cases hx : fidx id with
      | none => simp
      | some k => simp [hall k (fidx_some hx).1]
  have e : entries enc dflt false = ids.filterMap (fun id => ((if id = 15 then some [] else none : Option (List Int))).map (fun v => (id, v))) := by
    unfold entries
    refine fm_congr _ fun id hid => ?_
    rw [key id hid]
  rw [e]
  decide
theorem dflt_put (H : Codec enc dec) : put enc dflt false = [15, 0] := by
  unfold put
  rw [dflt_entries H]
  simp [flat, layE, H.small 15 (by decide) (by decide), H.small 0 (by decide) (by decide)]
end Go.Proofs.YtcidijmdndcdlaaDoor.Pm
