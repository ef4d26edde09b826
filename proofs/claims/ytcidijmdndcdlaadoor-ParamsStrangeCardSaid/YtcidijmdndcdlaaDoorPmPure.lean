/- Parameters (layer 3) in plain Lean: the record, what is put, what is read; what is put is read again, in any order, with unknown numbers among them; no condition. -/
namespace Go.Proofs.YtcidijmdndcdlaaDoor.Pm
set_option linter.unusedVariables false
set_option linter.unusedSimpArgs false
abbrev top : Int := 4611686018427387903
def fid (k : Nat) : Int := [1, 3, 4, 5, 6, 7, 8, 9, 10, 11, 14, 32].getD k 0
def fleast (k : Nat) : Int := [0, 1200, 0, 0, 0, 0, 0, 0, 0, 0, 2, 0].getD k 0
def fmost (k : Nat) : Int := [top, top, top, top, top, top, 1152921504606846976, 1152921504606846976, 20, 16383, top, top].getD k 0
def fnone (k : Nat) : Int := [0, 65527, 0, 0, 0, 0, 0, 0, 3, 25, 2, 0].getD k 0
def fidx (id : Int) : Option Nat := (List.range 12).find? (fun k => fid k == id)
structure Pm where
  n : List Int
  still : Bool
  orig : List Int
  first : List Int
  again : List Int
  hasAgain : Bool
  reset : List Int
  hasReset : Bool
def Pm.nk (p : Pm) (k : Nat) : Int := p.n.getD k 0
def zeros : List Int := List.replicate 16 0
def dflt : Pm := ⟨(List.range 12).map fnone, false, [], [], [], false, zeros, false⟩
def may (k : Nat) (v : Int) : Bool := decide (fleast k ≤ v) && decide (v ≤ fmost k)
def Pm.odd (p : Pm) : Bool := (List.range 12).any (fun k => !may k (p.nk k))
def Pm.long (p : Pm) : Bool := decide (p.orig.length > 20) || decide (p.first.length > 20) || decide (p.again.length > 20)
def Pm.bad1 (p : Pm) (server : Bool) : Bool := !server && (decide (p.orig.length > 0) || p.hasAgain || p.hasReset)
def Pm.bad2 (p : Pm) : Bool := (!p.hasAgain && decide (p.again.length > 0)) || (!p.hasReset && decide (p.reset ≠ zeros))
def Pm.check (p : Pm) (server : Bool) : Bool := !(p.odd || p.long || p.bad1 server || p.bad2)

section codec
/-- The codec of numbers of variable length. -/
structure Codec (enc : Int → List Int) (dec : List Int → Int → Int × Int × Int) : Prop where
  back : ∀ (l rest : List Int) (v : Int), 0 ≤ v → v ≤ top → dec (l ++ enc v ++ rest) (l.length : Int) = (v, (l.length : Int) + ((enc v).length : Int), (0 : Int))
  ok : ∀ (l : List Int) (p v q : Int), (∀ x ∈ l, 0 ≤ x ∧ x < 256) → dec l p = (v, q, 0) → 0 ≤ p ∧ 0 ≤ v ∧ v ≤ top ∧ p < q ∧ q ≤ l.length
  len : ∀ v, 0 ≤ v → v ≤ top → 1 ≤ (enc v).length ∧ (enc v).length ≤ 8
  byte : ∀ v, 0 ≤ v → v ≤ top → ∀ x ∈ enc v, 0 ≤ x ∧ x < 256
  small : ∀ v, 0 ≤ v → v < 64 → enc v = [v]
variable (enc : Int → List Int) (dec : List Int → Int → Int × Int × Int)

abbrev Ent := Int × List Int
def said (p : Pm) (server : Bool) (id : Int) : Option (List Int) :=
  if id = 0 then (if server then some p.orig else none)
  else if id = 2 then (if p.hasReset then some p.reset else none)
  else if id = 12 then (if p.still then some [] else none)
  else if id = 15 then some p.first
  else if id = 16 then (if p.hasAgain then some p.again else none)
  else match fidx id with
    | some k => if p.nk k = fnone k then none else some (enc (p.nk k))
    | none => none
def ids : List Int := (List.range 33).map (fun (k : Nat) => Int.ofNat k)
def entries (p : Pm) (server : Bool) : List Ent := ids.filterMap (fun id => (said enc p server id).map (fun v => (id, v)))
def layE (e : Ent) : List Int := enc e.1 ++ enc e.2.length ++ e.2
def flat (es : List Ent) : List Int := (es.map (layE enc)).flatten
def put (p : Pm) (server : Bool) : List Int := flat enc (entries enc p server)

def next (b : List Int) : Option (Int × List Int × List Int) :=
  let d := dec b 0
  let f := dec b d.2.1
  if d.2.2 ≠ 0 ∨ f.2.2 ≠ 0 ∨ (b.length : Int) - f.2.1 < f.1 then none
  else some (d.1, (b.drop f.2.1.toNat).take f.1.toNat, b.drop (f.2.1 + f.1).toNat)
def numOk (k : Nat) (value : List Int) : Bool :=
  decide ((dec value 0).2.2 = 0) && decide ((dec value 0).2.1 = value.length) && may k (dec value 0).1
def okE (server : Bool) (e : Ent) : Bool :=
  if !server && (decide (e.1 = 0) || decide (e.1 = 2) || decide (e.1 = 16)) then false
  else match fidx e.1 with
    | some k => numOk dec k e.2
    | none => if e.1 = 12 then decide (e.2.length = 0) else if e.1 = 2 then decide (e.2.length = 16) else if e.1 = 0 ∨ e.1 = 15 ∨ e.1 = 16 then decide (e.2.length ≤ 20) else true
def upd (p : Pm) (e : Ent) : Pm :=
  match fidx e.1 with
  | some k => { p with n := p.n.set k (dec e.2 0).1 }
  | none => if e.1 = 12 then { p with still := true } else if e.1 = 2 then { p with reset := e.2, hasReset := true } else if e.1 = 0 then { p with orig := e.2 }
    else if e.1 = 15 then { p with first := e.2 } else if e.1 = 16 then { p with again := e.2, hasAgain := true } else p
def take (server : Bool) (p : Pm) (e : Ent) : Option Pm := if okE dec server e then some (upd dec p e) else none
/-- What a reading tells: the code, and the record (of use only where the code is 0). -/
def read (server : Bool) : Nat → List Int → List Int → Pm → Int × Pm
  | 0, _, _, p => (0, p)
  | f + 1, b, came, p =>
    if b = [] then (if came.contains 15 = false ∨ (server = true ∧ came.contains 0 = false) then (11, p) else (0, p))
    else match next dec b with
      | none => (10, p)
      | some (id, v, rest) => if came.contains id then (13, p) else if okE dec server (id, v) then read server f rest (came ++ [id]) (upd dec p (id, v)) else (11, p)

def lk (es : List Ent) (id : Int) : Option (List Int) := (es.find? (fun e => e.1 == id)).map (·.2)
def build (es : List Ent) : Pm :=
  ⟨(List.range 12).map (fun k => match lk es (fid k) with | some v => (dec v 0).1 | none => fnone k), (lk es 12).isSome, (lk es 0).getD [], (lk es 15).getD [], (lk es 16).getD [], (lk es 16).isSome, (lk es 2).getD zeros, (lk es 2).isSome⟩
end codec

theorem lk_nil (id : Int) : lk [] id = none := rfl
theorem lk_cons (e : Ent) (es : List Ent) (id : Int) : lk (e :: es) id = if e.1 = id then some e.2 else lk es id := by
  unfold lk; rw [List.find?_cons]
  by_cases h : e.1 = id
  · simp [h]
  · rw [if_neg h]
    have : (e.1 == id) = false := by simpa using h
    rw [this]
theorem lk_append (es : List Ent) (e : Ent) (id : Int) : lk (es ++ [e]) id = (match lk es id with | some v => some v | none => if e.1 = id then some e.2 else none) := by
  induction es with
  | nil => rw [List.nil_append, lk_cons]; rfl
  | cons x es ih =>
    rw [List.cons_append, lk_cons, lk_cons]
    by_cases h : x.1 = id
    · rw [if_pos h, if_pos h]
    · rw [if_neg h, if_neg h, ih]
theorem lk_none {es : List Ent} {id : Int} : lk es id = none ↔ id ∉ es.map (·.1) := by
  induction es with
  | nil => simp [lk_nil]
  | cons x es ih =>
    rw [lk_cons, List.map_cons, List.mem_cons]
    by_cases h : x.1 = id
    · simp [h]
    · rw [if_neg h, ih]
      exact ⟨fun a b => b.elim (fun e => h e.symm) a, fun a b => a (.inr b)⟩
theorem lk_mem {es : List Ent} (hn : (es.map (·.1)).Nodup) {id : Int} {v : List Int} : lk es id = some v ↔ (id, v) ∈ es := by
  induction es with
  | nil => simp [lk_nil]
  | cons x es ih =>
    rw [List.map_cons, List.nodup_cons] at hn
    rw [lk_cons]
    obtain ⟨a, b⟩ := x
    by_cases h : a = id
    · subst h
      simp only [if_true, Option.some.injEq, List.mem_cons, Prod.mk.injEq, true_and]
      constructor
      · exact fun e => .inl e.symm
      · rintro (e | e)
        · exact e.symm
        · exact (hn.1 (List.mem_map.2 ⟨_, e, rfl⟩)).elim
    · simp only [if_neg h, ih hn.2, List.mem_cons, Prod.mk.injEq]
      constructor
      · exact fun e => .inr e
      · rintro (⟨e, _⟩ | e)
        · exact (h e.symm).elim
        · exact e
theorem lk_perm {es fs : List Ent} (hp : es.Perm fs) (hn : (es.map (·.1)).Nodup) (id : Int) : lk es id = lk fs id := by
  have hn2 : (fs.map (·.1)).Nodup := (hp.map _).nodup hn
  cases h : lk es id with
  | none =>
    have := lk_none.1 h
    exact (lk_none.2 (fun hm => this (((hp.map (·.1)).mem_iff).2 hm))).symm
  | some v => exact ((lk_mem hn2).2 (hp.mem_iff.1 ((lk_mem hn).1 h))).symm

theorem fidx_some {id : Int} {k : Nat} (h : fidx id = some k) : k < 12 ∧ fid k = id := by
  unfold fidx at h
  exact ⟨List.mem_range.1 (List.mem_of_find?_eq_some h), by simpa using List.find?_some h⟩
theorem fidx_fid : ∀ k, k < 12 → fidx (fid k) = some k := by decide
theorem fid_inj {j k : Nat} (hj : j < 12) (hk : k < 12) (h : fid j = fid k) : j = k := by
  have := fidx_fid j hj
  rw [h, fidx_fid k hk] at this
  exact (Option.some.inj this).symm
theorem fid_odd : ∀ k, k < 12 → fid k ≠ 0 ∧ fid k ≠ 2 ∧ fid k ≠ 12 ∧ fid k ≠ 15 ∧ fid k ≠ 16 ∧ 0 ≤ fid k ∧ fid k < 33 := by decide
theorem fidx_none_odd : fidx 0 = none ∧ fidx 2 = none ∧ fidx 12 = none ∧ fidx 15 = none ∧ fidx 16 = none := by decide

section
variable {enc : Int → List Int} {dec : List Int → Int → Int × Int × Int}
theorem upd_build (es : List Ent) (e : Ent) (hn : e.1 ∉ es.map (·.1)) : upd dec (build dec es) e = build dec (es ++ [e]) := by
  obtain ⟨id, v⟩ := e
  have hz := lk_none.2 hn
  have hl : ∀ j, lk (es ++ [(id, v)]) j = if id = j then some v else lk es j := fun j => by
    rw [lk_append]
    by_cases h : id = j
    · subst h; simp at hz; rw [hz]
    · cases lk es j <;> simp [h]
  have h12 := hl 12; have h0 := hl 0; have h15 := hl 15; have h16 := hl 16; have h2 := hl 2
  unfold upd
  cases hx : fidx id with
  | some k =>
    obtain ⟨hk, rfl⟩ := fidx_some hx
    obtain ⟨g0, g2, g12, g15, g16, _, _⟩ := fid_odd k hk
    rw [if_neg g12] at h12; rw [if_neg g0] at h0; rw [if_neg g15] at h15; rw [if_neg g16] at h16; rw [if_neg g2] at h2
    simp only [hx]
    unfold build
    rw [h12, h0, h15, h16, h2]
    congr 1
    refine List.ext_getElem (by simp) fun j h1 h2 => ?_
    simp only [List.length_map, List.length_range] at h2
    rw [List.getElem_set]
    simp only [List.getElem_map, List.getElem_range, hl]
    by_cases hj : k = j
    · subst hj; simp
    · rw [if_neg hj, if_neg (fun h => hj (fid_inj hk h2 h))]
  | none =>
    have hne : ∀ k, k < 12 → id ≠ fid k := fun k hk h => by rw [h, fidx_fid k hk] at hx; cases hx
    have hN : (List.range 12).map (fun k => match lk (es ++ [(id, v)]) (fid k) with | some v => (dec v 0).1 | none => fnone k) = (List.range 12).map (fun k => match lk es (fid k) with | some v => (dec v 0).1 | none => fnone k) := by
      refine List.map_congr_left fun k hk => ?_
      rw [hl, if_neg (hne k (List.mem_range.1 hk))]
    simp only [hx]
    by_cases e12 : id = 12
    · subst e12; unfold build; rw [hN]; simp_all
    by_cases e2 : id = 2
    · subst e2; unfold build; rw [hN]; simp_all
    by_cases e0 : id = 0
    · subst e0; unfold build; rw [hN]; simp_all
    by_cases e15 : id = 15
    · subst e15; unfold build; rw [hN]; simp_all
    by_cases e16 : id = 16
    · subst e16; unfold build; rw [hN]; simp_all
    · unfold build; rw [hN]; simp_all
theorem build_nil : build dec [] = dflt := rfl

theorem next_lay (H : Codec enc dec) (e : Ent) (rest : List Int) (h0 : 0 ≤ e.1) (h1 : e.1 ≤ top) (hl : (e.2.length : Int) ≤ top) : next dec (layE enc e ++ rest) = some (e.1, e.2, rest) := by
  obtain ⟨id, v⟩ := e
  simp only at h0 h1 hl
  have a := H.back [] (enc v.length ++ v ++ rest) id h0 h1
  have b := H.back (enc id) (v ++ rest) v.length (by omega) hl
  have e1 : layE enc (id, v) ++ rest = [] ++ enc id ++ (enc v.length ++ v ++ rest) := by simp [layE]
  have e2 : layE enc (id, v) ++ rest = enc id ++ enc v.length ++ (v ++ rest) := by simp [layE]
  have a' : dec (layE enc (id, v) ++ rest) 0 = (id, ((enc id).length : Int), (0 : Int)) := by rw [e1]; simpa using a
  have b' : dec (layE enc (id, v) ++ rest) ((enc id).length : Int) = ((v.length : Int), ((enc id).length : Int) + ((enc v.length).length : Int), (0 : Int)) := by rw [e2]; exact b
  unfold next
  simp only [a', b']
  have hlen : ((layE enc (id, v) ++ rest).length : Int) = (enc id).length + (enc v.length).length + v.length + rest.length := by simp [layE]; omega
  rw [hlen, if_neg (by rintro (h | h | h) <;> omega)]
  have t1 : ((enc id).length + ((enc (v.length : Int)).length : Int)).toNat = (enc id ++ enc v.length).length := by simp; omega
  have t2 : ((enc id).length + ((enc (v.length : Int)).length : Int) + (v.length : Int)).toNat = (enc id ++ enc v.length ++ v).length := by simp; omega
  rw [t1, t2]
  have e3 : layE enc (id, v) ++ rest = (enc id ++ enc v.length) ++ (v ++ rest) := by simp [layE]
  have e4 : layE enc (id, v) ++ rest = (enc id ++ enc v.length ++ v) ++ rest := by simp [layE]
  rw [show (layE enc (id, v) ++ rest).drop (enc id ++ enc v.length).length = v ++ rest by rw [e3, List.drop_left], show (layE enc (id, v) ++ rest).drop (enc id ++ enc v.length ++ v).length = rest by rw [e4, List.drop_left]]
  simp
/-- Reading goes over entries one by one. -/
theorem read_flat (H : Codec enc dec) (server : Bool) : ∀ (es ds : List Ent) (rest : List Int) (f : Nat), ((ds ++ es).map (·.1)).Nodup → (∀ e ∈ es, okE dec server e = true ∧ 0 ≤ e.1 ∧ e.1 ≤ top ∧ (e.2.length : Int) ≤ top) →
    read dec server (f + es.length) (flat enc es ++ rest) (ds.map (·.1)) (build dec ds) = read dec server f rest ((ds ++ es).map (·.1)) (build dec (ds ++ es)) := by
  intro es
  induction es with
  | nil => intro ds rest f _ _; simp [flat]
  | cons e es ih =>
    intro ds rest f hn ho
    obtain ⟨o1, o2, o3, o4⟩ := ho e List.mem_cons_self
    have hnext := next_lay H e (flat enc es ++ rest) o2 o3 o4
    have hf : flat enc (e :: es) ++ rest = layE enc e ++ (flat enc es ++ rest) := by simp [flat]
    have hne : layE enc e ++ (flat enc es ++ rest) ≠ [] := by
      have := (H.len e.1 o2 o3).1
      intro h
      have := congrArg List.length h
      have h5 : (layE enc e).length = (enc e.1).length + ((enc (e.2.length : Int)).length + e.2.length) := by simp [layE]
      simp only [List.length_append, List.length_nil] at this; omega
    have hni : e.1 ∉ ds.map (·.1) := by
      rw [List.map_append, List.map_cons] at hn
      intro hm
      exact (List.nodup_append.1 hn).2.2 _ hm _ List.mem_cons_self rfl
    rw [hf, List.length_cons, ← Nat.add_assoc]
    rw [read, if_neg hne, hnext]
    simp only
    rw [if_neg (by simpa using hni), if_pos o1, upd_build ds e hni]
    have := ih (ds ++ [e]) rest f (by simpa using hn) (fun x hx => ho x (List.mem_cons_of_mem _ hx))
    simp only [List.map_append, List.map_cons, List.map_nil, List.append_assoc, List.cons_append, List.nil_append] at this ⊢
    exact this
theorem next_short (H : Codec enc dec) {b : List Int} (hb : ∀ x ∈ b, 0 ≤ x ∧ x < 256) {id : Int} {v rest : List Int} (h : next dec b = some (id, v, rest)) :
    rest.length < b.length ∧ (∀ x ∈ rest, 0 ≤ x ∧ x < 256) ∧ (∀ x ∈ v, 0 ≤ x ∧ x < 256) ∧ 0 ≤ id ∧ id ≤ top ∧ v.length ≤ b.length := by
  unfold next at h
  simp only at h
  split at h
  · cases h
  · rename_i hc
    simp only [Option.some.injEq, Prod.mk.injEq] at h
    obtain ⟨rfl, rfl, rfl⟩ := h
    have c1 : (dec b 0).2.2 = 0 := by by_cases h : (dec b 0).2.2 = 0; exact h; exact (hc (.inl h)).elim
    have c2 : (dec b (dec b 0).2.1).2.2 = 0 := by by_cases h : (dec b (dec b 0).2.1).2.2 = 0; exact h; exact (hc (.inr (.inl h))).elim
    have d1 := H.ok b 0 (dec b 0).1 (dec b 0).2.1 hb (Prod.ext rfl (Prod.ext rfl c1))
    have d2 := H.ok b (dec b 0).2.1 (dec b (dec b 0).2.1).1 (dec b (dec b 0).2.1).2.1 hb (Prod.ext rfl (Prod.ext rfl c2))
    refine ⟨by rw [List.length_drop]; omega, fun x hx => hb x (List.mem_of_mem_drop hx), fun x hx => hb x (List.mem_of_mem_drop (List.mem_of_mem_take hx)), d1.2.1, d1.2.2.1, ?_⟩
    rw [List.length_take, List.length_drop]; omega
theorem read_fuel (H : Codec enc dec) (server : Bool) : ∀ (f g : Nat) (b came : List Int) (p : Pm), (∀ x ∈ b, 0 ≤ x ∧ x < 256) → b.length < f → b.length < g → read dec server f b came p = read dec server g b came p := by
  intro f
  induction f with
  | zero => intro g b came p _ h; omega
  | succ f ih =>
    intro g b came p hb h1 h2
    obtain ⟨g, rfl⟩ : ∃ g', g = g' + 1 := ⟨g - 1, by omega⟩
    unfold read
    by_cases hb0 : b = []
    · rw [if_pos hb0, if_pos hb0]
    · rw [if_neg hb0, if_neg hb0]
      cases hx : next dec b with
      | none => rfl
      | some t =>
        obtain ⟨id, v, rest⟩ := t
        simp only
        have hs := next_short H hb hx
        split
        · rfl
        · split
          · exact ih g rest _ _ hs.2.1 (by omega) (by omega)
          · rfl
/-- What is read without an error is built of entries that may be. -/
theorem read_built (H : Codec enc dec) (server : Bool) : ∀ (f : Nat) (b : List Int) (ds : List Ent) (q : Pm), (∀ x ∈ b, 0 ≤ x ∧ x < 256) → b.length < f → (ds.map (·.1)).Nodup → (∀ e ∈ ds, okE dec server e = true ∧ (∀ x ∈ e.2, 0 ≤ x ∧ x < 256)) →
    read dec server f b (ds.map (·.1)) (build dec ds) = (0, q) → ∃ es : List Ent, (es.map (·.1)).Nodup ∧ (∀ e ∈ es, okE dec server e = true ∧ (∀ x ∈ e.2, 0 ≤ x ∧ x < 256)) ∧ q = build dec es := by
  intro f
  induction f with
  | zero => intro b ds q _ h; omega
  | succ f ih =>
    intro b ds q hb h1 hn ho h
    unfold read at h
    by_cases hb0 : b = []
    · rw [if_pos hb0] at h
      split at h
      · simp at h
      · simp only [Prod.mk.injEq, true_and] at h
        exact ⟨ds, hn, ho, h.symm⟩
    · rw [if_neg hb0] at h
      cases hx : next dec b with
      | none => rw [hx] at h; simp at h
      | some t =>
        obtain ⟨id, v, rest⟩ := t
        rw [hx] at h
        simp only at h
        have hs := next_short H hb hx
        split at h
        · simp at h
        · rename_i hc
          split at h
          · rename_i hok
            have hni : id ∉ ds.map (·.1) := by simpa using hc
            rw [upd_build ds (id, v) hni] at h
            have hm : (ds ++ [(id, v)]).map (·.1) = ds.map (·.1) ++ [id] := by simp
            rw [← hm] at h
            refine ih rest (ds ++ [(id, v)]) q hs.2.1 (by omega) ?_ ?_ h
            · rw [hm]
              exact List.nodup_append.2 ⟨hn, by simp, fun x hx y hy e => hni (by simp at hy; rw [← hy, ← e]; exact hx)⟩
            · intro e he
              rcases List.mem_append.1 he with he | he
              · exact ho e he
              · simp at he; subst he; exact ⟨hok, hs.2.2.1⟩
          · simp at h

/-! ### What is put, and read again. -/
/-- A record that a struct can hold. -/
structure Pm.Ok (p : Pm) : Prop where
  n : p.n.length = 12
  r : p.reset.length = 16
  bo : ∀ x ∈ p.orig, 0 ≤ x ∧ x < 256
  bf : ∀ x ∈ p.first, 0 ≤ x ∧ x < 256
  ba : ∀ x ∈ p.again, 0 ≤ x ∧ x < 256
  br : ∀ x ∈ p.reset, 0 ≤ x ∧ x < 256
theorem check_true {p : Pm} {server : Bool} (h : p.check server = true) :
    (∀ k, k < 12 → fleast k ≤ p.nk k ∧ p.nk k ≤ fmost k) ∧ p.orig.length ≤ 20 ∧ p.first.length ≤ 20 ∧ p.again.length ≤ 20 ∧
    (server = false → p.orig = [] ∧ p.hasAgain = false ∧ p.hasReset = false) ∧ (p.hasAgain = false → p.again = []) ∧ (p.hasReset = false → p.reset = zeros) := by
  unfold Pm.check Pm.odd Pm.long Pm.bad1 Pm.bad2 may at h
  simp only [Bool.not_eq_true', Bool.or_eq_false_iff, decide_eq_false_iff_not, List.any_eq_false, List.mem_range, Bool.not_eq_eq_eq_not, Bool.not_true, Bool.and_eq_false_imp, Bool.not_eq_false', Bool.and_eq_true, decide_eq_true_eq] at h
  obtain ⟨⟨⟨h1, h2, h3⟩, h4⟩, h5⟩ := h
  refine ⟨fun k hk => ?_, by omega, by omega, by omega, fun hs => ?_, fun ha => ?_, fun hr => ?_⟩
  · have := h1 k hk; simp at this; exact this
  · have := h4 hs
    exact ⟨List.length_eq_zero_iff.1 (by have := this.1.1; omega), this.1.2, this.2⟩
  · have := h5.1 ha; exact List.length_eq_zero_iff.1 (by omega)
  · have := h5.2 hr; simpa using this
theorem check_of {p : Pm} {server : Bool} (h1 : ∀ k, k < 12 → fleast k ≤ p.nk k ∧ p.nk k ≤ fmost k) (h2 : p.orig.length ≤ 20) (h3 : p.first.length ≤ 20) (h4 : p.again.length ≤ 20)
    (h5 : server = false → p.orig = [] ∧ p.hasAgain = false ∧ p.hasReset = false) (h6 : p.hasAgain = false → p.again = []) (h7 : p.hasReset = false → p.reset = zeros) : p.check server = true := by
  have a : p.odd = false := by
    unfold Pm.odd
    rw [List.any_eq_false]
    intro k hk
    have := h1 k (List.mem_range.1 hk)
    simp [may, this.1, this.2]
  have b : p.long = false := by unfold Pm.long; simp; omega
  have c : p.bad1 server = false := by
    unfold Pm.bad1
    cases server with
    | true => rfl
    | false => obtain ⟨e1, e2, e3⟩ := h5 rfl; rw [e1, e2, e3]; rfl
  have d : p.bad2 = false := by
    unfold Pm.bad2
    cases ha : p.hasAgain with
    | true =>
      cases hr : p.hasReset with
      | true => rfl
      | false => rw [h7 hr]; simp
    | false =>
      rw [h6 ha]
      cases hr : p.hasReset with
      | true => rfl
      | false => rw [h7 hr]; simp
  unfold Pm.check; rw [a, b, c, d]; rfl
theorem mem_ids {id : Int} : id ∈ ids ↔ 0 ≤ id ∧ id < 33 := by
  unfold ids
  rw [List.mem_map]
  constructor
  · rintro ⟨k, hk, rfl⟩; have := List.mem_range.1 hk; have e : Int.ofNat k = (k : Int) := rfl; rw [e]; omega
  · rintro ⟨h0, h1⟩; exact ⟨id.toNat, List.mem_range.2 (by omega), Int.toNat_of_nonneg h0⟩
theorem ids_nodup : ids.Nodup := by decide
theorem entries_mem {p : Pm} {server : Bool} {id : Int} {v : List Int} : (id, v) ∈ entries enc p server ↔ 0 ≤ id ∧ id < 33 ∧ said enc p server id = some v := by
  unfold entries
  rw [List.mem_filterMap]
  constructor
  · rintro ⟨j, hj, he⟩
    rw [Option.map_eq_some_iff] at he
    obtain ⟨w, hw, he⟩ := he
    injection he with e1 e2
    subst e1; subst e2
    exact ⟨(mem_ids.1 hj).1, (mem_ids.1 hj).2, hw⟩
  · rintro ⟨h0, h1, hs⟩
    exact ⟨id, mem_ids.2 ⟨h0, h1⟩, by rw [hs]; rfl⟩
theorem filterMap_nodup (g : Int → Option (List Int)) : ∀ l : List Int, l.Nodup → ((l.filterMap (fun id => (g id).map (fun v => (id, v)))).map (·.1)).Nodup := by
  intro l
  induction l with
  | nil => intro _; simp
  | cons a l ih =>
    intro hn
    rw [List.nodup_cons] at hn
    rw [List.filterMap_cons]
    cases h : g a with
    | none => exact ih hn.2
    | some v =>
      simp only [Option.map_some, List.map_cons, List.nodup_cons]
      refine ⟨fun hm => ?_, ih hn.2⟩
      rw [List.mem_map] at hm
      obtain ⟨⟨x, y⟩, hx, rfl⟩ := hm
      rw [List.mem_filterMap] at hx
      obtain ⟨j, hj, he⟩ := hx
      rw [Option.map_eq_some_iff] at he
      obtain ⟨w, _, he⟩ := he
      injection he with e1 e2
      subst e1
      exact hn.1 hj
theorem entries_nodup (p : Pm) (server : Bool) : ((entries enc p server).map (·.1)).Nodup := filterMap_nodup _ _ ids_nodup
theorem entries_lk {p : Pm} {server : Bool} {id : Int} (h0 : 0 ≤ id) (h1 : id < 33) : lk (entries enc p server) id = said enc p server id := by
  cases h : said enc p server id with
  | some v => exact (lk_mem (entries_nodup p server)).2 (entries_mem.2 ⟨h0, h1, h⟩)
  | none =>
    refine lk_none.2 fun hm => ?_
    rw [List.mem_map] at hm
    obtain ⟨⟨a, b⟩, hx, rfl⟩ := hm
    have := (entries_mem.1 hx).2.2
    simp only at h
    rw [h] at this; cases this
theorem said_fid (p : Pm) (server : Bool) (k : Nat) (hk : k < 12) : said enc p server (fid k) = if p.nk k = fnone k then none else some (enc (p.nk k)) := by
  obtain ⟨g0, g2, g12, g15, g16, _, _⟩ := fid_odd k hk
  unfold said
  rw [if_neg g0, if_neg g2, if_neg g12, if_neg g15, if_neg g16, fidx_fid k hk]
theorem dec_enc (H : Codec enc dec) (v : Int) (h0 : 0 ≤ v) (h1 : v ≤ top) : dec (enc v) 0 = (v, ((enc v).length : Int), 0) := by
  have := H.back [] [] v h0 h1
  simpa using this
theorem fmost_top : ∀ k, k < 12 → 0 ≤ fleast k ∧ fmost k ≤ top := by decide
theorem dflt_ok : ∀ k, k < 12 → fleast k ≤ fnone k ∧ fnone k ≤ fmost k := by decide
theorem ext_n {a b : List Int} (ha : a.length = 12) (hb : b.length = 12) (h : ∀ k, k < 12 → a.getD k 0 = b.getD k 0) : a = b := by
  refine List.ext_getElem (by omega) fun k h1 h2 => ?_
  have := h k (by omega)
  rwa [List.getD_eq_getElem?_getD, List.getD_eq_getElem?_getD, List.getElem?_eq_getElem h1, List.getElem?_eq_getElem h2] at this
/-- The record built of what is put is the record. -/
theorem build_entries (H : Codec enc dec) {p : Pm} {server : Bool} (hp : p.Ok) (hc : p.check server = true) : build dec (entries enc p server) = p := by
  obtain ⟨c1, c2, c3, c4, c5, c6, c7⟩ := check_true hc
  have l12 : lk (entries enc p server) 12 = if p.still then some [] else none := by rw [entries_lk (by decide) (by decide)]; rfl
  have l0 : lk (entries enc p server) 0 = if server then some p.orig else none := by rw [entries_lk (by decide) (by decide)]; rfl
  have l15 : lk (entries enc p server) 15 = some p.first := by rw [entries_lk (by decide) (by decide)]; rfl
  have l16 : lk (entries enc p server) 16 = if p.hasAgain then some p.again else none := by rw [entries_lk (by decide) (by decide)]; rfl
  have l2 : lk (entries enc p server) 2 = if p.hasReset then some p.reset else none := by rw [entries_lk (by decide) (by decide)]; rfl
  have hN : (List.range 12).map (fun k => match lk (entries enc p server) (fid k) with | some v => (dec v 0).1 | none => fnone k) = p.n := by
    refine ext_n (by simp) hp.n fun k hk => ?_
    rw [List.getD_eq_getElem?_getD, List.getElem?_map, List.getElem?_range hk]
    simp only [Option.map_some, Option.getD_some]
    obtain ⟨_, _, _, _, _, g0, g1⟩ := fid_odd k hk
    rw [entries_lk g0 g1, said_fid p server k hk]
    have := c1 k hk
    have := fmost_top k hk
    by_cases h : p.nk k = fnone k
    · rw [if_pos h]; exact h.symm
    · rw [if_neg h]
      show (dec (enc (p.nk k)) 0).1 = _
      rw [dec_enc H _ (by omega) (by omega)]
      rfl
  unfold build
  rw [hN, l12, l0, l15, l16, l2]
  obtain ⟨n, still, orig, first, again, hasAgain, reset, hasReset⟩ := p
  simp only at c5 c6 c7 ⊢
  cases server <;> cases still <;> cases hasAgain <;> cases hasReset <;> simp_all
theorem entries_ok (H : Codec enc dec) {p : Pm} {server : Bool} (hp : p.Ok) (hc : p.check server = true) : ∀ e ∈ entries enc p server, okE dec server e = true ∧ 0 ≤ e.1 ∧ e.1 ≤ top ∧ (e.2.length : Int) ≤ top := by
  rintro ⟨id, v⟩ he
  obtain ⟨h0, h1, hs⟩ := entries_mem.1 he
  obtain ⟨c1, c2, c3, c4, c5, c6, c7⟩ := check_true hc
  simp only
  have ht : id ≤ top := by unfold top; omega
  unfold said at hs
  unfold okE
  simp only
  by_cases e0 : id = 0
  · subst e0
    rw [if_pos rfl] at hs
    cases server with
    | false => simp at hs
    | true => simp at hs; subst hs; rw [fidx_none_odd.1]; simp; unfold top at *; omega
  rw [if_neg e0] at hs
  by_cases e2 : id = 2
  · subst e2
    rw [if_pos rfl] at hs
    cases hr : p.hasReset with
    | false => rw [hr] at hs; simp at hs
    | true =>
      rw [hr] at hs; simp at hs; subst hs
      cases server with
      | false => have := (c5 rfl).2.2; rw [hr] at this; cases this
      | true => rw [fidx_none_odd.2.1]; simp [hp.r]; unfold top; omega
  rw [if_neg e2] at hs
  by_cases e12 : id = 12
  · subst e12
    rw [if_pos rfl] at hs
    cases hr : p.still with
    | false => rw [hr] at hs; simp at hs
    | true =>
      rw [hr] at hs; simp at hs; subst hs
      rw [fidx_none_odd.2.2.1]; cases server <;> simp <;> unfold top <;> omega
  rw [if_neg e12] at hs
  by_cases e15 : id = 15
  · subst e15
    rw [if_pos rfl] at hs; simp at hs; subst hs
    rw [fidx_none_odd.2.2.2.1]; cases server <;> simp <;> unfold top <;> omega
  rw [if_neg e15] at hs
  by_cases e16 : id = 16
  · subst e16
    rw [if_pos rfl] at hs
    cases hr : p.hasAgain with
    | false => rw [hr] at hs; simp at hs
    | true =>
      rw [hr] at hs; simp at hs; subst hs
      cases server with
      | false => have := (c5 rfl).2.1; rw [hr] at this; cases this
      | true => rw [fidx_none_odd.2.2.2.2]; simp; unfold top; omega
  rw [if_neg e16] at hs
  cases hx : fidx id with
  | none => rw [hx] at hs; simp at hs
  | some k =>
    rw [hx] at hs
    simp only at hs
    obtain ⟨hk, rfl⟩ := fidx_some hx
    have a := c1 k hk
    have b := fmost_top k hk
    split at hs
    · cases hs
    · obtain rfl := Option.some.inj hs
      have := H.len (p.nk k) (by omega) (by omega)
      have hd := dec_enc H (p.nk k) (by omega) (by omega)
      simp only [e0, e2, e16]
      simp [numOk, hd, may, a.1, a.2]
      unfold top at *; omega
theorem flat_append (es fs : List Ent) : flat enc (es ++ fs) = flat enc es ++ flat enc fs := by simp [flat]
/-- Reading entries that may be, each once, with 15 (and 0 of a server): the record built of them. -/
theorem read_entries (H : Codec enc dec) (server : Bool) (es : List Ent) (rest : List Int) (f : Nat) (hn : (es.map (·.1)).Nodup) (ho : ∀ e ∈ es, okE dec server e = true ∧ 0 ≤ e.1 ∧ e.1 ≤ top ∧ (e.2.length : Int) ≤ top) :
    read dec server (f + es.length) (flat enc es ++ rest) [] dflt = read dec server f rest (es.map (·.1)) (build dec es) := by
  have := read_flat H server es [] rest f hn ho
  simpa [build_nil] using this
theorem read_end {server : Bool} {came : List Int} {p : Pm} {f : Nat} (h15 : 15 ∈ came) (h0 : server = true → 0 ∈ came) : read dec server (f + 1) [] came p = (0, p) := by
  unfold read
  rw [if_pos rfl, if_neg]
  rintro (h | ⟨hs, h⟩)
  · simp at h; exact h h15
  · simp at h; exact h (h0 hs)
theorem entries_15 {p : Pm} {server : Bool} : 15 ∈ (entries enc p server).map (·.1) := List.mem_map.2 ⟨(15, p.first), entries_mem.2 ⟨by decide, by decide, rfl⟩, rfl⟩
theorem entries_0 {p : Pm} {server : Bool} (h : server = true) : 0 ∈ (entries enc p server).map (·.1) := by
  subst h; exact List.mem_map.2 ⟨(0, p.orig), entries_mem.2 ⟨by decide, by decide, rfl⟩, rfl⟩
theorem flat_len (H : Codec enc dec) : ∀ es : List Ent, (∀ e ∈ es, 0 ≤ e.1 ∧ e.1 ≤ top) → es.length ≤ (flat enc es).length := by
  intro es
  induction es with
  | nil => intro _; simp [flat]
  | cons e es ih =>
    intro h
    have := ih (fun x hx => h x (List.mem_cons_of_mem _ hx))
    have := (H.len e.1 (h e List.mem_cons_self).1 (h e List.mem_cons_self).2).1
    have e1 : flat enc (e :: es) = layE enc e ++ flat enc es := by simp [flat]
    have h5 : (layE enc e).length = (enc e.1).length + ((enc (e.2.length : Int)).length + e.2.length) := by simp [layE]
    rw [e1, List.length_append, List.length_cons]; omega
/-- Any order of what is put is read again as the record. -/
theorem read_turned (H : Codec enc dec) {p : Pm} {server : Bool} (hp : p.Ok) (hc : p.check server = true) (es : List Ent) (hperm : (entries enc p server).Perm es) (f : Nat) (hf : (flat enc es).length < f) :
    read dec server f (flat enc es) [] dflt = (0, p) := by
  have ho : ∀ e ∈ es, okE dec server e = true ∧ 0 ≤ e.1 ∧ e.1 ≤ top ∧ (e.2.length : Int) ≤ top := fun e he => entries_ok H hp hc e (hperm.mem_iff.2 he)
  have hl := flat_len H es (fun e he => ⟨(ho e he).2.1, (ho e he).2.2.1⟩)
  obtain ⟨g, rfl⟩ : ∃ g, f = (g + 1) + es.length := ⟨f - 1 - es.length, by omega⟩
  have h := read_entries H server es [] (g + 1) ((hperm.map _).nodup (entries_nodup p server)) ho
  rw [List.append_nil] at h
  rw [h, read_end ((hperm.map _).mem_iff.1 entries_15) (fun hs => (hperm.map _).mem_iff.1 (entries_0 hs))]
  have : build dec es = build dec (entries enc p server) := by
    have hl := lk_perm hperm (entries_nodup p server)
    unfold build
    simp only [hl]
  rw [this, build_entries H hp hc]
theorem read_put (H : Codec enc dec) {p : Pm} {server : Bool} (hp : p.Ok) (hc : p.check server = true) (f : Nat) (hf : (put enc p server).length < f) : read dec server f (put enc p server) [] dflt = (0, p) :=
  read_turned H hp hc _ (List.Perm.refl _) f hf
end
end Go.Proofs.YtcidijmdndcdlaaDoor.Pm
