/- Maps keyed by whole numbers, their elements as they stand: a rising list of keys and values; look-ups, stores, deletes, ranges; no condition. -/
import Derived.Maps.Own
import Derived.Maps.OwnSet
import Derived.Maps.Ext
import Derived.Maps.Range
import Derived.Maps.RangeWalk
set_option linter.unusedVariables false
set_option linter.unusedSimpArgs false
namespace Go.Proofs.YtcidijmdndcdlaaDoor.Rm
open Go Go.Maps Go.ChangeMaps Go.MapKept
open Go.WideElems (Fit rd rg pl rd_val elemAt)
/-- An element as it stands. -/
def rawElem (v : Value) : Option (DataW Value × List MemPlace) := some (.held v, [])
abbrev KV := List (Int × Value)
def ent (p : Int × Value) : Lit × DataW Value := (.int .i64 p.1, .held p.2)
def mapD (l : KV) : DataW Value := .map (l.map ent)
def getL (l : KV) (k : Int) : Option Value := (l.find? (fun p => p.1 == k)).map (·.2)
def delL (l : KV) (k : Int) : KV := l.filter (fun p => p.1 != k)
def insL (p : Int × Value) : KV → KV
  | [] => [p]
  | q :: r => if p.1 < q.1 then p :: q :: r else q :: insL p r
def putL (l : KV) (k : Int) (v : Value) : KV := insL (k, v) (delL l k)
def Rising (l : KV) : Prop := l.Pairwise (fun a b => a.1 < b.1)
theorem sameKey_int (a b : Int) : (Lit.int .i64 a).sameKey (.int .i64 b) = (a == b) := by
  unfold Lit.sameKey
  by_cases h : a = b <;> simp [h]
theorem mapD_del (l : KV) (k : Int) : (mapD l).del (.int .i64 k) = mapD (delL l k) := by
  unfold mapD DataW.del delL
  simp only
  congr 1
  induction l with
  | nil => rfl
  | cons p l ih =>
    simp only [List.map_cons, List.filter_cons]
    have : (!(ent p).1.sameKey (.int .i64 k)) = (p.1 != k) := by unfold ent; simp only [sameKey_int]; rfl
    rw [this]
    split
    · rw [List.map_cons, ih]
    · exact ih
theorem insert_ent (p : Int × Value) (l : KV) : DataW.insert (ent p) (l.map ent) = (insL p l).map ent := by
  induction l with
  | nil => rfl
  | cons q l ih =>
    simp only [List.map_cons, DataW.insert, insL]
    have : (ent p).1.before (ent q).1 = decide (p.1 < q.1) := rfl
    rw [this]
    by_cases h : p.1 < q.1
    · simp [h]
    · simp [h, ih]
theorem mapD_put (l : KV) (k : Int) (v : Value) : (mapD l).put (.int .i64 k) (.held v) = mapD (putL l k v) := by
  have h := mapD_del l k
  unfold mapD DataW.del at h
  unfold mapD DataW.put putL
  simp only at h ⊢
  injection h with h
  rw [h]
  exact congrArg DataW.map (insert_ent (k, v) (delL l k))
theorem mapD_at (l : KV) (k : Int) (z : DataW Value) : (mapD l).atKey (.int .i64 k) z = match getL l k with | some v => .held v | none => z := by
  unfold mapD DataW.atKey getL
  simp only
  induction l with
  | nil => rfl
  | cons p l ih =>
    simp only [List.map_cons, List.find?_cons]
    have : (ent p).1.sameKey (.int .i64 k) = (p.1 == k) := sameKey_int _ _
    rw [this]
    cases hp : (p.1 == k) with
    | true => rfl
    | false => exact ih
theorem mapD_has (l : KV) (k : Int) : Maps.has (mapD l) (.int .i64 k) = (getL l k).isSome := by
  unfold mapD getL
  rw [Maps.has_eq]
  induction l with
  | nil => rfl
  | cons p l ih =>
    simp only [List.map_cons, List.any_cons, List.find?_cons]
    have : (ent p).1.sameKey (.int .i64 k) = (p.1 == k) := sameKey_int _ _
    rw [this]
    cases hp : (p.1 == k) with
    | true => simp
    | false => simpa using ih
theorem mapD_size (l : KV) : Maps.size (mapD l) = l.length := by
  unfold mapD
  rw [Maps.size_eq, List.length_map]
theorem mapD_nil : (DataW.map [] : DataW Value) = mapD [] := rfl
theorem getL_nil (k : Int) : getL [] k = none := rfl
theorem getL_cons (p : Int × Value) (l : KV) (k : Int) : getL (p :: l) k = if p.1 = k then some p.2 else getL l k := by
  unfold getL
  rw [List.find?_cons]
  by_cases h : p.1 = k
  · simp [h]
  · have : (p.1 == k) = false := beq_eq_false_iff_ne.mpr h
    rw [this, if_neg h]
theorem getL_del_same (l : KV) (k : Int) : getL (delL l k) k = none := by
  unfold getL delL
  rw [Option.map_eq_none_iff, List.find?_eq_none]
  intro x hx
  have := (List.mem_filter.1 hx).2
  simpa using this
theorem getL_del_other (l : KV) {k j : Int} (h : j ≠ k) : getL (delL l k) j = getL l j := by
  induction l with
  | nil => rfl
  | cons p l ih =>
    unfold delL at ih ⊢
    rw [List.filter_cons]
    by_cases hp : p.1 = k
    · rw [if_neg (by simp [hp]), ih, getL_cons, if_neg (by omega)]
    · rw [if_pos (by simp [hp]), getL_cons, getL_cons, ih]
theorem getL_ins (p : Int × Value) (l : KV) (j : Int) (h : ∀ q ∈ l, q.1 ≠ p.1) : getL (insL p l) j = if p.1 = j then some p.2 else getL l j := by
  induction l with
  | nil => rw [show insL p [] = [p] from rfl, getL_cons]
  | cons q l ih =>
    unfold insL
    split
    · rw [getL_cons]
    · rw [getL_cons, ih (fun x hx => h x (List.mem_cons_of_mem _ hx)), getL_cons]
      have := h q List.mem_cons_self
      by_cases h1 : q.1 = j
      · rw [if_pos h1, if_pos h1, if_neg (by omega)]
      · rw [if_neg h1, if_neg h1]
theorem del_ne {l : KV} {k : Int} : ∀ q ∈ delL l k, q.1 ≠ k := fun q hq => by
  have := (List.mem_filter.1 hq).2
  simpa using this
theorem getL_put_same (l : KV) (k : Int) (v : Value) : getL (putL l k v) k = some v := by
  unfold putL
  rw [getL_ins _ _ _ (fun q hq => del_ne q hq), if_pos rfl]
theorem getL_put_other (l : KV) {k j : Int} (v : Value) (h : j ≠ k) : getL (putL l k v) j = getL l j := by
  unfold putL
  rw [getL_ins _ _ _ (fun q hq => del_ne q hq), if_neg (by simp only; omega), getL_del_other l h]
theorem mem_ins {p x : Int × Value} {l : KV} : x ∈ insL p l ↔ x = p ∨ x ∈ l := by
  induction l with
  | nil => simp [insL]
  | cons q l ih =>
    unfold insL
    split
    · simp
    · simp only [List.mem_cons, ih]
      constructor
      · rintro (h | h | h)
        · exact .inr (.inl h)
        · exact .inl h
        · exact .inr (.inr h)
      · rintro (h | h | h)
        · exact .inr (.inl h)
        · exact .inl h
        · exact .inr (.inr h)
theorem Rising.del {l : KV} (h : Rising l) (k : Int) : Rising (delL l k) := h.filter _
theorem Rising.ins {l : KV} (h : Rising l) {p : Int × Value} (hn : ∀ q ∈ l, q.1 ≠ p.1) : Rising (insL p l) := by
  induction l with
  | nil => exact List.pairwise_singleton _ _
  | cons q l ih =>
    obtain ⟨h1, h2⟩ := List.pairwise_cons.1 h
    unfold insL
    split
    · next hlt =>
      refine List.pairwise_cons.2 ⟨fun x hx => ?_, h⟩
      rcases List.mem_cons.1 hx with rfl | hx
      · exact hlt
      · have := h1 x hx
        omega
    · next hge =>
      refine List.pairwise_cons.2 ⟨fun x hx => ?_, ih h2 (fun y hy => hn y (List.mem_cons_of_mem _ hy))⟩
      rcases mem_ins.1 hx with rfl | hx
      · have := hn q List.mem_cons_self
        omega
      · exact h1 x hx
theorem Rising.put {l : KV} (h : Rising l) (k : Int) (v : Value) : Rising (putL l k v) := (h.del k).ins (fun q hq => del_ne q hq)
theorem Rising.mem_get {l : KV} (h : Rising l) {k : Int} {v : Value} : (k, v) ∈ l ↔ getL l k = some v := by
  induction l with
  | nil => simp [getL]
  | cons p l ih =>
    obtain ⟨h1, h2⟩ := List.pairwise_cons.1 h
    rw [List.mem_cons, getL_cons]
    by_cases hp : p.1 = k
    · rw [if_pos hp]
      constructor
      · rintro (rfl | hm)
        · rfl
        · have := h1 _ hm
          simp only at this
          omega
      · intro he
        injection he with he
        left
        exact Prod.ext hp.symm he.symm
    · rw [if_neg hp, ← ih h2]
      constructor
      · rintro (rfl | hm)
        · exact absurd rfl hp
        · exact hm
      · exact .inr
section
variable {w : World} {P : Program} {k e t : TypeId} {b n : Nat} {l : KV}
theorem keyInt (hk : P.underlying k = some (.int .i64)) {x : Int} (hx : (Lit.int .i64 x).wf = true) : keyOf P k (.int .i64 x) = some (.int .i64 x) := keyOf_int_mk hk hx
theorem rising_of (h : w.ownsMap P k rawElem b n (mapD l)) (K : Keyed P k) : Rising l := by
  obtain ⟨es, he, hp, _⟩ := h.canon K
  unfold mapD at he
  injection he with he
  subst he
  rw [List.pairwise_map] at hp
  exact hp.imp (fun {a b} hab => by
    have : (ent a).1.before (ent b).1 = decide (a.1 < b.1) := rfl
    rw [this] at hab
    simpa using hab)
theorem look_ok (h : w.ownsMap P k rawElem b n (mapD l)) (K : Keyed P k) (ht : P.underlying t = some (.map k e)) {z : Value} (hz : (zeroValue e).run P w = .ok z w) {x : Int} (hk : keyOf P k (.int .i64 x) = some (.int .i64 x)) :
    (Instr.lookup t (.map (some b)) (.int .i64 x) true).run P w = .ok (.tuple #[(getL l x).getD z, .bool (getL l x).isSome]) w := by
  obtain ⟨v, ps, hr, hv⟩ := h.look_ok K ht hz (zd := .held z) (zp := []) rfl hk
  rw [mapD_at] at hv
  rw [mapD_has] at hr
  unfold rawElem at hv
  injection hv with hv
  injection hv with hv _
  rw [hr]
  cases hg : getL l x with
  | none => rw [hg] at hv; simp only at hv; injection hv with hv; subst hv; rfl
  | some u => rw [hg] at hv; simp only at hv; injection hv with hv; subst hv; rfl
theorem look (h : w.ownsMap P k rawElem b n (mapD l)) (K : Keyed P k) (ht : P.underlying t = some (.map k e)) {z : Value} (hz : (zeroValue e).run P w = .ok z w) {x : Int} (hk : keyOf P k (.int .i64 x) = some (.int .i64 x)) :
    (Instr.lookup t (.map (some b)) (.int .i64 x) false).run P w = .ok ((getL l x).getD z) w := by
  obtain ⟨v, ps, hr, hv⟩ := h.lookup K ht hz (zd := .held z) (zp := []) rfl hk
  rw [mapD_at] at hv
  unfold rawElem at hv
  injection hv with hv
  injection hv with hv _
  rw [hr]
  cases hg : getL l x with
  | none => rw [hg] at hv; simp only at hv; injection hv with hv; subst hv; rfl
  | some u => rw [hg] at hv; simp only at hv; injection hv with hv; subst hv; rfl
theorem store (h : w.ownsMap P k rawElem b n (mapD l)) (K : Keyed P k) (ht : P.underlying t = some (.map k e)) (hn : n < maxLen) {x : Int} (hk : keyOf P k (.int .i64 x) = some (.int .i64 x)) (v : Value) :
    ∃ w', (Instr.mapUpdate t (.map (some b)) (.int .i64 x) v).run P w = .ok () w' ∧ w'.ownsMap P k rawElem b (n + 1) (mapD (putL l x v)) ∧ w.mapTurned w' b := by
  obtain ⟨w', h1, h2, h3⟩ := h.store K ht hn hk (val := v) (d := .held v) (ps := []) rfl
  rw [mapD_put] at h2
  exact ⟨w', h1, h2, h3⟩
theorem drop (h : w.ownsMap P k rawElem b n (mapD l)) (K : Keyed P k) (ht : P.underlying t = some (.map k e)) {x : Int} (hk : keyOf P k (.int .i64 x) = some (.int .i64 x)) (ty : TypeId) :
    ∃ w', (Builtin.delete_ #[t, k] ty #[.map (some b), .int .i64 x]).run P w = .ok (.tuple #[]) w' ∧ w'.ownsMap P k rawElem b n (mapD (delL l x)) ∧ w.mapTurned w' b := by
  obtain ⟨w', h1, h2, h3⟩ := h.drop K ht hk ty
  rw [mapD_del] at h2
  exact ⟨w', h1, h2, h3⟩
theorem len (h : w.ownsMap P k rawElem b n (mapD l)) (ht : P.underlying t = some (.map k e)) (ty : TypeId) : (Builtin.len_ #[t] ty #[.map (some b)]).run P w = .ok (.int .i64 l.length) w := by
  have := h.len ht ty
  rw [mapD_size] at this
  exact this
theorem made (w : World) (P : Program) (k : TypeId) : (w.alloc (.map #[] 0)).ownsMap P k rawElem w.heap.size 0 (mapD []) := World.ownsMap_made w P k rawElem
theorem length_le (h : w.ownsMap P k rawElem b n (mapD l)) : l.length ≤ n := by
  have := h.size_le
  rwa [mapD_size] at this
theorem tight (h : w.ownsMap P k rawElem b n (mapD l)) : w.ownsMap P k rawElem b l.length (mapD l) := by
  obtain ⟨es, clock, hb, F, hs, he⟩ := h
  refine ⟨es, clock, hb, F, ?_, he⟩
  have := congrArg Maps.size he
  rw [mapD_size] at this
  have e2 : Maps.size (DataW.map ((es.toList.map (rg P k rawElem)).foldr DataW.insert [])) = es.size := by simp [Maps.size, length_sorted]
  omega
/-- A range under way: which keys are still to come. -/
theorem rangeOf (h : w.ownsMap P k rawElem b n (mapD l)) (K : Keyed P k) (ht : P.underlying t = some (.map k e)) :
    ∃ w', (Instr.range t (.map (some b))).run P w = .ok (.pointer (some ⟨w.heap.size, 0, none⟩)) w' ∧ w'.ranges P k rawElem b w.heap.size n (mapD l) (Maps.has (mapD l)) l.length ∧ w.grownBy w' none ∧ w'.heap.size = w.heap.size + 1 := by
  have := h.range K ht
  rw [mapD_size] at this
  exact this
theorem nextOf {r cnt : Nat} {left : Lit → Bool} (hi : P.underlying k = some (.int .i64)) (h : w.ranges P k rawElem b r n (mapD l) left cnt) (K : Keyed P k) (ty : TypeId) :
    (cnt = 0 ∧ (∀ kl, left kl = false) ∧ (Instr.next (.pointer (some ⟨r, 0, none⟩)) false ty).run P w = .ok (.tuple #[.bool false]) w) ∨
    ∃ x v w' cnt', (x, v) ∈ l ∧ (Lit.int .i64 x).wf = true ∧ left (.int .i64 x) = true ∧ (Instr.next (.pointer (some ⟨r, 0, none⟩)) false ty).run P w = .ok (.tuple #[.bool true, .int .i64 x, v]) w' ∧
      w'.ranges P k rawElem b r n (mapD l) (fun z => left z && !z.sameKey (.int .i64 x)) cnt' ∧ cnt' < cnt ∧ w.grownBy w' (some r) ∧ w'.heap.size = w.heap.size ∧ (Instr.entry (.pointer (some ⟨r, 0, none⟩))).run P w' = .ok (.tuple #[.int .i64 x, v]) w' := by
  rcases h.next K ty with h0 | ⟨key, v, kl, y, w', cnt', hkey, hl, hR, hat, hrun, hrg, hlt, hg, hs, hen⟩
  · exact .inl h0
  · obtain ⟨x, rfl, rfl, hwf⟩ := Maps.keyOf_int_inv hi hkey
    refine .inr ⟨x, v, w', cnt', ?_, hwf, hl, hrun, hrg, hlt, hg, hs, hen⟩
    have h1 := hat (.lit (.bool true))
    rw [mapD_at] at h1
    unfold rawElem at hR
    injection hR with hR
    rw [← hR] at h1
    rw [(rising_of h.owns K).mem_get]
    cases hg : getL l x with
    | none => rw [hg] at h1; simp only at h1; cases h1
    | some u => rw [hg] at h1; simp only at h1; injection h1 with h1; rw [h1]
end
end Go.Proofs.YtcidijmdndcdlaaDoor.Rm
