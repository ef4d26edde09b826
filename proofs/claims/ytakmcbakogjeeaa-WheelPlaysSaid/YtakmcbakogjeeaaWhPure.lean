/- Timers as lists: the order by times and keys, what a map holds of them, what lies on the rims; no condition, no program in sight. -/
import Derived.Test.YtakmcbakogjeeaaRawMap
set_option linter.unusedVariables false
set_option linter.unusedSimpArgs false
namespace Go.Proofs.Ytakmcbakogjeeaa.Wh
open Go Go.Proofs.Ytakmcbakogjeeaa.Rm
/-- A timer: its key, its time. -/
abbrev Tm := Int × Int
def lt (a b : Tm) : Prop := a.2 < b.2 ∨ (a.2 = b.2 ∧ a.1 < b.1)
instance : DecidableRel lt := fun a b => inferInstanceAs (Decidable (_ ∨ _))
theorem lt_asymm {a b : Tm} (h1 : lt a b) (h2 : lt b a) : a = b := by unfold lt at *; omega
theorem lt_trans {a b c : Tm} (h1 : lt a b) (h2 : lt b c) : lt a c := by unfold lt at *; omega
theorem lt_total {a b : Tm} (h : a.1 ≠ b.1) : lt a b ∨ lt b a := by unfold lt; omega
/-- A timer put into its place. -/
def insT (t : Tm) : List Tm → List Tm
  | [] => [t]
  | y :: r => if lt y t then y :: insT t r else t :: y :: r
theorem insT_perm (t : Tm) : ∀ L, (insT t L).Perm (t :: L)
  | [] => List.Perm.refl _
  | y :: r => by
    unfold insT
    split
    · exact ((insT_perm t r).cons y).trans (List.Perm.swap t y r)
    · exact List.Perm.refl _
theorem insT_mem {t x : Tm} {L : List Tm} : x ∈ insT t L ↔ x = t ∨ x ∈ L := by rw [(insT_perm t L).mem_iff, List.mem_cons]
theorem insT_len (t : Tm) (L : List Tm) : (insT t L).length = L.length + 1 := (insT_perm t L).length_eq
/-- The law of a list of timers: rising, each key once, times within bounds. -/
structure Tms (L : List Tm) : Prop where
  srt : L.Pairwise lt
  key : L.Pairwise (fun a b => a.1 ≠ b.1)
  tm : ∀ t ∈ L, 0 ≤ t.2 ∧ t.2 ≤ 1125899906842624
theorem Tms.nil : Tms [] := ⟨List.Pairwise.nil, List.Pairwise.nil, fun t h => by cases h⟩
theorem Tms.filter {L : List Tm} (h : Tms L) (p : Tm → Bool) : Tms (L.filter p) := ⟨h.srt.filter p, h.key.filter p, fun t ht => h.tm t (List.mem_filter.1 ht).1⟩
theorem insT_srt {t : Tm} : ∀ {L : List Tm}, L.Pairwise lt → (∀ x ∈ L, x.1 ≠ t.1) → (insT t L).Pairwise lt
  | [], _, _ => List.pairwise_singleton _ _
  | y :: r, h, hn => by
    obtain ⟨h1, h2⟩ := List.pairwise_cons.1 h
    unfold insT
    split
    · next hy => exact List.pairwise_cons.2 ⟨fun x hx => by
        rcases insT_mem.1 hx with rfl | hx
        · exact hy
        · exact h1 x hx, insT_srt h2 (fun x hx => hn x (List.mem_cons_of_mem _ hx))⟩
    · next hy =>
      have hty : lt t y := (lt_total (hn y List.mem_cons_self)).resolve_left hy
      exact List.pairwise_cons.2 ⟨fun x hx => by
        rcases List.mem_cons.1 hx with rfl | hx
        · exact hty
        · exact lt_trans hty (h1 x hx), h⟩
theorem Tms.ins {L : List Tm} (h : Tms L) {t : Tm} (hn : ∀ x ∈ L, x.1 ≠ t.1) (h0 : 0 ≤ t.2) (h1 : t.2 ≤ 1125899906842624) : Tms (insT t L) :=
  ⟨insT_srt h.srt hn, ((insT_perm t L).pairwise_iff (fun {x y} hxy e => hxy e.symm)).2 (List.pairwise_cons.2 ⟨fun x hx e => hn x hx e.symm, h.key⟩), fun x hx => by
    rcases insT_mem.1 hx with rfl | hx
    · exact ⟨h0, h1⟩
    · exact h.tm x hx⟩
/-- Two rising lists of the same timers are one. -/
theorem same_of_perm {L M : List Tm} (h1 : L.Pairwise lt) (h2 : M.Pairwise lt) (h : L.Perm M) : L = M :=
  h.eq_of_pairwise (fun a b _ _ hab hba => lt_asymm hab hba) h1 h2
def without (k : Int) (L : List Tm) : List Tm := L.filter (fun t => t.1 != k)
theorem without_ne {k : Int} {L : List Tm} : ∀ x ∈ without k L, x.1 ≠ k := fun x hx => by
  have := (List.mem_filter.1 hx).2
  simpa using this
theorem without_self {k : Int} {L : List Tm} (h : ∀ x ∈ L, x.1 ≠ k) : without k L = L := by
  unfold without
  rw [List.filter_eq_self]
  intro x hx
  simpa using h x hx
def findT (k : Int) (L : List Tm) : Option Int := (L.find? (fun t => t.1 == k)).map (·.2)
theorem find_some {k a : Int} : ∀ {L : List Tm}, L.Pairwise (fun a b => a.1 ≠ b.1) → ((k, a) ∈ L ↔ findT k L = some a)
  | [], _ => by simp [findT]
  | y :: r, h => by
    obtain ⟨h1, h2⟩ := List.pairwise_cons.1 h
    have ih := find_some (k := k) (a := a) h2
    unfold findT at ih ⊢
    rw [List.find?_cons]
    by_cases hy : y.1 = k
    · rw [show (y.1 == k) = true by simp [hy]]
      simp only [Option.map_some, Option.some.injEq]
      constructor
      · intro hm
        rcases List.mem_cons.1 hm with e | hm
        · rw [← e]
        · exact absurd hy (by have := h1 _ hm; exact this)
      · intro e
        rw [← hy, ← e]
        exact List.mem_cons_self
    · rw [show (y.1 == k) = false by simp [hy]]
      simp only []
      rw [← ih]
      constructor
      · intro hm
        rcases List.mem_cons.1 hm with e | hm
        · exact absurd (by rw [← e]) hy
        · exact hm
      · exact List.mem_cons_of_mem _
theorem find_none {k : Int} {L : List Tm} : findT k L = none ↔ ∀ x ∈ L, x.1 ≠ k := by
  unfold findT
  rw [Option.map_eq_none_iff, List.find?_eq_none]
  simp
/-- What a map of the timers holds. -/
def kvOf (L : List Tm) : KV := L.map (fun t => (t.1, .int .i64 t.2))
theorem keys_of {kv : KV} {L : List Tm} (hr : Rising kv) (h : kv.Perm (kvOf L)) : L.Pairwise (fun a b => a.1 ≠ b.1) := by
  have h1 : kv.Pairwise (fun a b => a.1 ≠ b.1) := hr.imp (fun {a b} hab e => by rw [e] at hab; omega)
  have h2 := (h.pairwise_iff (fun {x y} (hxy : x.1 ≠ y.1) e => hxy e.symm)).1 h1
  unfold kvOf at h2
  rw [List.pairwise_map] at h2
  exact h2
theorem get_of {kv : KV} {L : List Tm} (hr : Rising kv) (h : kv.Perm (kvOf L)) (k : Int) : getL kv k = (findT k L).map (Value.int .i64) := by
  have hk := keys_of hr h
  cases hf : findT k L with
  | some a =>
    have hm := (find_some hk).2 hf
    have : (k, Value.int .i64 a) ∈ kv := h.mem_iff.2 (List.mem_map.2 ⟨(k, a), hm, rfl⟩)
    rw [hr.mem_get.1 this]
    rfl
  | none =>
    have hn := find_none.1 hf
    cases hg : getL kv k with
    | none => rfl
    | some v =>
      have hm := h.mem_iff.1 (hr.mem_get.2 hg)
      obtain ⟨t, ht, e⟩ := List.mem_map.1 hm
      exact absurd (by injection e) (hn t ht)
theorem del_of {kv : KV} {L : List Tm} (h : kv.Perm (kvOf L)) (k : Int) : (delL kv k).Perm (kvOf (without k L)) := by
  have := h.filter (fun p => p.1 != k)
  unfold delL without kvOf at *
  rw [List.filter_map] at this
  exact this
theorem insL_perm (p : Int × Value) : ∀ l : KV, (insL p l).Perm (p :: l)
  | [] => List.Perm.refl _
  | y :: r => by
    unfold insL
    split
    · exact List.Perm.refl _
    · exact ((insL_perm p r).cons y).trans (List.Perm.swap p y r)
theorem put_of {kv : KV} {L : List Tm} (h : kv.Perm (kvOf L)) (k a : Int) : (putL kv k (.int .i64 a)).Perm (kvOf (insT (k, a) (without k L))) := by
  unfold putL
  refine (insL_perm _ _).trans (((del_of h k).cons _).trans ?_)
  exact ((insT_perm (k, a) (without k L)).map (fun t : Tm => (t.1, Value.int .i64 t.2))).symm
/-- The place of a time on a rim. -/
def spot (r : Nat) (t : Int) : Nat := 64 * r + ((t / 64 ^ r) % 64).toNat
theorem spot_lt {r : Nat} {t : Int} (hr : r < 9) : spot r t < 576 ∧ spot r t / 64 = r ∧ 64 * r ≤ spot r t := by
  unfold spot
  have h1 : 0 ≤ (t / 64 ^ r) % 64 := Int.emod_nonneg _ (by decide)
  have h2 : (t / 64 ^ r) % 64 < 64 := Int.emod_lt_of_pos _ (by decide)
  omega
/-- What lies on the rims (576 rows), and what is late (the last row): each timer once, on a rim only what is ahead. -/
structure Rims (now : Int) (S : List (List Tm)) (L : List Tm) : Prop where
  len : S.length = 577
  prm : S.flatten.Perm L
  pos : ∀ j, j < 576 → ∀ t ∈ S.getD j [], now < t.2 ∧ spot (j / 64) t.2 = j
variable {now : Int} {S S' : List (List Tm)} {L : List Tm}
theorem set_flat : ∀ {S : List (List Tm)} {j : Nat}, j < S.length → ∀ (l : List Tm), ((S.set j l).flatten ++ S.getD j []).Perm (S.flatten ++ l)
  | [], _, h, _ => absurd h (by simp)
  | x :: S, 0, _, l => by
    simp only [List.set_cons_zero, List.flatten_cons, List.getD_cons_zero]
    have h1 : (l ++ S.flatten ++ x).Perm (x ++ (l ++ S.flatten)) := List.perm_append_comm
    refine h1.trans ?_
    rw [List.append_assoc]
    exact (List.perm_append_comm (l₁ := l) (l₂ := S.flatten)).append_left x
  | x :: S, j + 1, h, l => by
    simp only [List.set_cons_succ, List.flatten_cons, List.getD_cons_succ]
    rw [List.append_assoc, List.append_assoc]
    exact (set_flat (by simpa using h) l).append_left x
theorem getD_set (S : List (List Tm)) (j i : Nat) (l : List Tm) : (S.set j l).getD i [] = if i = j ∧ j < S.length then l else S.getD i [] := by
  rw [List.getD_eq_getElem?_getD, List.getD_eq_getElem?_getD, List.getElem?_set]
  by_cases hij : j = i
  · subst hij
    by_cases hl : j < S.length
    · simp [hl]
    · simp [hl]
  · rw [if_neg hij, if_neg (fun hh => hij hh.1.symm)]
/-- A timer laid. -/
theorem Rims.add (h : Rims now S L) {j : Nat} (hj : j < 577) (t : Tm) (hp : j < 576 → now < t.2 ∧ spot (j / 64) t.2 = j) : Rims now (S.set j (S.getD j [] ++ [t])) (t :: L) := by
  have hl := h.len
  refine ⟨by rw [List.length_set, h.len], ?_, fun i hi x hx => ?_⟩
  · have h1 := set_flat (S := S) (j := j) (by omega) (S.getD j [] ++ [t])
    have h2 : (S.flatten ++ (S.getD j [] ++ [t])).Perm ((t :: S.flatten) ++ S.getD j []) := by
      rw [← List.append_assoc]
      exact (List.perm_append_singleton t _)
    have h3 := (List.perm_append_right_iff _).1 (h1.trans h2)
    exact h3.trans (h.prm.cons t)
  · rw [getD_set] at hx
    split at hx
    · next hh =>
      rcases List.mem_append.1 hx with hx | hx
      · exact h.pos i hi x (by rw [hh.1]; exact hx)
      · rw [List.mem_singleton.1 hx, hh.1]
        exact hp (by omega)
    · exact h.pos i hi x hx
theorem getD_mem {S : List (List Tm)} {t : Tm} : t ∈ S.flatten ↔ ∃ j, j < S.length ∧ t ∈ S.getD j [] := by
  rw [List.mem_flatten]
  constructor
  · rintro ⟨l, hl, ht⟩
    obtain ⟨j, hj, e⟩ := List.mem_iff_getElem.1 hl
    exact ⟨j, hj, by rw [List.getD_eq_getElem?_getD, List.getElem?_eq_getElem hj, e]; exact ht⟩
  · rintro ⟨j, hj, ht⟩
    rw [List.getD_eq_getElem?_getD, List.getElem?_eq_getElem hj] at ht
    exact ⟨_, List.getElem_mem hj, ht⟩
theorem Rims.mem (h : Rims now S L) {t : Tm} (ht : t ∈ L) : ∃ j, j < 577 ∧ t ∈ S.getD j [] := by
  have := getD_mem.1 (h.prm.mem_iff.2 ht)
  rwa [h.len] at this
theorem Rims.stop (h : Rims now S L) (hk : L.Pairwise (fun a b => a.1 ≠ b.1)) {k a : Int} (hf : (k, a) ∈ L) (S' : List (List Tm)) (hl : S'.length = 577)
    (hs : ∀ j, j < 577 → (j = 576 ∨ ∃ q, q < 9 ∧ spot q a = j) → S'.getD j [] = without k (S.getD j [])) (hs2 : ∀ j, j < 577 → ¬ (j = 576 ∨ ∃ q, q < 9 ∧ spot q a = j) → S'.getD j [] = S.getD j []) : Rims now S' (without k L) := by
  have e : S' = S.map (without k) := by
    apply List.ext_getElem
    · rw [hl, List.length_map, h.len]
    · intro j hj1 hj2
      have hj : j < 577 := by omega
      have hjS : j < S.length := by rw [h.len]; exact hj
      have e1 : S'.getD j [] = S'[j] := by rw [List.getD_eq_getElem?_getD, List.getElem?_eq_getElem hj1]; rfl
      have e2 : S.getD j [] = S[j] := by rw [List.getD_eq_getElem?_getD, List.getElem?_eq_getElem hjS]; rfl
      rw [List.getElem_map, ← e1, ← e2]
      by_cases hn : j = 576 ∨ ∃ q, q < 9 ∧ spot q a = j
      · exact hs j hj hn
      · rw [hs2 j hj hn, e2]
        refine (without_self ?_).symm
        intro x hx hxk
        have hxL : x ∈ L := h.prm.mem_iff.1 (List.mem_flatten.2 ⟨S[j], List.getElem_mem hjS, hx⟩)
        have hx2 : x = (k, a) := by
          have e1 := (find_some hk).1 hf
          have e2 := (find_some (k := k) (a := x.2) hk).1 (by rw [← hxk]; exact hxL)
          rw [e1] at e2
          injection e2 with e2
          rw [Prod.ext_iff]
          exact ⟨hxk, e2.symm⟩
        have hj6 : j < 576 := by omega
        have hp := h.pos j hj6 x (by rw [List.getD_eq_getElem?_getD, List.getElem?_eq_getElem hjS]; exact hx)
        exact hn (.inr ⟨j / 64, by omega, by rw [hx2] at hp; exact hp.2⟩)
  subst e
  refine ⟨hl, ?_, fun j hj t ht => ?_⟩
  · rw [show S.map (without k) = S.map (List.filter (fun t => t.1 != k)) from rfl, ← List.filter_flatten]
    exact h.prm.filter _
  · rw [List.getD_eq_getElem?_getD, List.getElem?_map] at ht
    refine h.pos j hj t ?_
    rw [List.getD_eq_getElem?_getD]
    cases hg : S[j]? with
    | none => rw [hg] at ht; cases ht
    | some l => rw [hg] at ht; exact (List.mem_filter.1 ht).1
/-- Rows swept of a key, one by one. -/
def sweepL (k a : Int) : Nat → List (List Tm) → List (List Tm)
  | 0, S => S.set 576 (without k (S.getD 576 []))
  | q + 1, S => (sweepL k a q S).set (spot q a) (without k ((sweepL k a q S).getD (spot q a) []))
theorem sweepL_len (k a : Int) (S : List (List Tm)) : ∀ q, (sweepL k a q S).length = S.length
  | 0 => List.length_set
  | q + 1 => by unfold sweepL; rw [List.length_set, sweepL_len k a S q]
theorem sweepL_get (k a : Int) (S : List (List Tm)) (hS : S.length = 577) : ∀ q, q ≤ 9 → ∀ j, j < 577 → ((j = 576 ∨ ∃ r, r < q ∧ spot r a = j) → (sweepL k a q S).getD j [] = without k (S.getD j [])) ∧ (¬ (j = 576 ∨ ∃ r, r < q ∧ spot r a = j) → (sweepL k a q S).getD j [] = S.getD j [])
  | 0, _, j, hj => by
    unfold sweepL
    rw [getD_set]
    constructor
    · rintro (rfl | ⟨r, hr, _⟩)
      · rw [if_pos ⟨rfl, by omega⟩]
      · omega
    · intro h
      rw [if_neg (fun hh => h (.inl hh.1))]
  | q + 1, hq, j, hj => by
    obtain ⟨h1, h2⟩ := sweepL_get k a S hS q (by omega) j hj
    obtain ⟨s1, s2, s3⟩ := spot_lt (r := q) (t := a) (by omega)
    unfold sweepL
    rw [getD_set, sweepL_len]
    constructor
    · intro h
      by_cases hjq : j = spot q a
      · rw [if_pos ⟨hjq, by omega⟩, ← hjq, h2 (by
          rintro (e | ⟨r, hr, e⟩)
          · omega
          · have := (spot_lt (r := r) (t := a) (by omega)).2.1
            rw [e, hjq] at this
            omega)]
      · rw [if_neg (fun hh => hjq hh.1)]
        refine h1 ?_
        rcases h with e | ⟨r, hr, e⟩
        · exact .inl e
        · refine .inr ⟨r, ?_, e⟩
          rcases Nat.lt_or_ge r q with h | h
          · exact h
          · obtain rfl : r = q := by omega
            exact absurd e.symm hjq
    · intro h
      rw [if_neg (fun hh => h (.inr ⟨q, by omega, hh.1.symm⟩))]
      exact h2 (fun hh => h (by
        rcases hh with e | ⟨r, hr, e⟩
        · exact .inl e
        · exact .inr ⟨r, by omega, e⟩))
theorem Rims.swept (h : Rims now S L) (hk : L.Pairwise (fun a b => a.1 ≠ b.1)) {k a : Int} (hf : (k, a) ∈ L) : Rims now (sweepL k a 9 S) (without k L) :=
  h.stop hk hf _ (by rw [sweepL_len]; exact h.len) (fun j hj => (sweepL_get k a S h.len 9 (Nat.le_refl _) j hj).1) (fun j hj => (sweepL_get k a S h.len 9 (Nat.le_refl _) j hj).2)
theorem Rims.few (h : Rims now S L) {j : Nat} {l : List Tm} (hj : S[j]? = some l) : l.length ≤ L.length := by
  rw [← h.prm.length_eq, List.length_flatten]
  have hm : l.length ∈ S.map List.length := List.mem_map.2 ⟨l, List.mem_of_getElem? hj, rfl⟩
  generalize S.map List.length = Z at hm
  induction Z with
  | nil => cases hm
  | cons z Z ih =>
    rw [List.sum_cons]
    rcases List.mem_cons.1 hm with e | hm
    · omega
    · have := ih hm; omega
/-- Taking under way: rows as they were or empty, what is out of them in acc; r rims are done. -/
structure Sw (S0 : List (List Tm)) (was to : Int) (r : Nat) (S' : List (List Tm)) (acc : List Tm) : Prop where
  len : S'.length = 577
  prm : (S'.flatten ++ acc).Perm S0.flatten
  each : ∀ j, S'.getD j [] = S0.getD j [] ∨ S'.getD j [] = []
  late : S'.getD 576 [] = []
  done : ∀ q, q < r → ∀ k : Int, was / 64 ^ q ≤ k → k ≤ to / 64 ^ q → S'.getD (64 * q + (k % 64).toNat) [] = []
theorem set_nil {S' : List (List Tm)} {j i : Nat} (h : S'.getD i [] = []) : (S'.set j []).getD i [] = [] := by
  rw [getD_set]
  split
  · rfl
  · exact h
theorem flat_set_nil {S' : List (List Tm)} {j : Nat} (hj : j < S'.length) (acc : List Tm) : ((S'.set j []).flatten ++ (acc ++ S'.getD j [])).Perm (S'.flatten ++ acc) := by
  have h := set_flat (S := S') (j := j) hj []
  rw [List.append_nil] at h
  have h1 : ((S'.set j []).flatten ++ (acc ++ S'.getD j [])).Perm (((S'.set j []).flatten ++ S'.getD j []) ++ acc) := by
    rw [List.append_assoc]
    exact (List.perm_append_comm (l₁ := acc)).append_left _
  exact h1.trans (h.append_right acc)
theorem Sw.start (h : S.length = 577) (was to : Int) : Sw S was to 0 (S.set 576 []) (S.getD 576 []) := by
  refine ⟨by rw [List.length_set, h], ?_, fun j => ?_, ?_, fun q hq => by omega⟩
  · have := flat_set_nil (S' := S) (j := 576) (by omega) []
    rwa [List.append_nil, List.nil_append] at this
  · rw [getD_set]
    split
    · exact .inr rfl
    · exact .inl rfl
  · rw [getD_set, if_pos ⟨rfl, by omega⟩]
theorem Sw.take {was to : Int} {r : Nat} {acc : List Tm} (h : Sw S was to r S' acc) {j : Nat} (hj : j < 577) : Sw S was to r (S'.set j []) (acc ++ S'.getD j []) := by
  refine ⟨by rw [List.length_set, h.len], (flat_set_nil (by rw [h.len]; exact hj) acc).trans h.prm, fun i => ?_, set_nil h.late, fun q hq k h1 h2 => set_nil (h.done q hq k h1 h2)⟩
  rw [getD_set]
  split
  · exact .inr rfl
  · exact h.each i
theorem Sw.next {was to : Int} {r : Nat} {acc : List Tm} (h : Sw S was to r S' acc) (hr : ∀ k : Int, was / 64 ^ r ≤ k → k ≤ to / 64 ^ r → S'.getD (64 * r + (k % 64).toNat) [] = []) : Sw S was to (r + 1) S' acc :=
  ⟨h.len, h.prm, h.each, h.late, fun q hq k h1 h2 => by
    rcases Nat.lt_or_ge q r with hl | hg
    · exact h.done q hl k h1 h2
    · obtain rfl : q = r := by omega
      exact hr k h1 h2⟩
/-- 64 in a row are all. -/
theorem cover {S' : List (List Tm)} {r : Nat} {A B : Int} (h : ∀ k : Int, B - 64 ≤ k → k ≤ B → S'.getD (64 * r + (k % 64).toNat) [] = []) : ∀ k : Int, A ≤ k → k ≤ B → S'.getD (64 * r + (k % 64).toNat) [] = [] := by
  intro k h1 h2
  have := h (B - (B - k) % 64) (by omega) (by omega)
  rwa [show (B - (B - k) % 64) % 64 = k % 64 by omega] at this
/-- What is left on the rims lies ahead. -/
theorem Sw.fin {was to : Int} {acc : List Tm} (h : Sw S was to 9 S' acc) (hr : Rims was S L) (hto : was ≤ to) : (S'.flatten ++ acc).Perm L ∧ (∀ t ∈ S'.flatten, to < t.2) ∧ ∀ j, j < 576 → ∀ t ∈ S'.getD j [], to < t.2 ∧ spot (j / 64) t.2 = j := by
  have key : ∀ j, j < 576 → ∀ t ∈ S'.getD j [], to < t.2 ∧ spot (j / 64) t.2 = j := by
    intro j hj t ht
    rcases h.each j with e | e
    · rw [e] at ht
      obtain ⟨h1, h2⟩ := hr.pos j hj t ht
      refine ⟨Int.lt_of_not_ge (fun hle => ?_), h2⟩
      have hp : (0 : Int) < 64 ^ (j / 64) := Int.pow_pos (by decide)
      have h3 := h.done (j / 64) (by omega) (t.2 / 64 ^ (j / 64)) (Int.ediv_le_ediv hp (by omega)) (Int.ediv_le_ediv hp hle)
      rw [show 64 * (j / 64) + ((t.2 / 64 ^ (j / 64)) % 64).toNat = j from h2, e] at h3
      rw [h3] at ht
      cases ht
    · rw [e] at ht
      cases ht
  refine ⟨h.prm.trans hr.prm, fun t ht => ?_, key⟩
  obtain ⟨j, hj, hm⟩ := getD_mem.1 ht
  rw [h.len] at hj
  by_cases h6 : j = 576
  · rw [h6, h.late] at hm
    cases hm
  · exact (key j (by omega) t hm).1
end Go.Proofs.Ytakmcbakogjeeaa.Wh
