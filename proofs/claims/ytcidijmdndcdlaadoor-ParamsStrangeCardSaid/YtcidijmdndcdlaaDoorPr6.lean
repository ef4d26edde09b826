/- Parameters (layer 3): Put; no condition. -/
import Derived.Test.YtcidijmdndcdlaaDoorPr5
import Derived.Deep.DeepCutAuto
import Derived.Deep.RegionHeld3
import Derived.Deep.QuietTactic
import Derived.BigQuiet
set_option linter.unusedVariables false
set_option linter.unusedSimpArgs false
namespace Go.Proofs.YtcidijmdndcdlaaDoor.Pr
open Go Go.RowKit Go.Maps Go.Proofs.YtcidijmdndcdlaaDoor.Pm Go.Proofs.YtcidijmdndcdlaaDoor.Rm Go.Proofs.YtcidijmdndcdlaaDoor.OctM
open Go.Proofs.YtcidijmdndcdlaaDoorW.PrintWords Go.Proofs.YtcidijmdndcdlaaDoorW.PrintLast Go.Proofs.YtcidijmdndcdlaaDoorW.PrintMore
variable {W W' W0 : World} {g b m n : Nat} {p : Pm} {vo vf va : Value} {kv : KV}
/-- What is said when the first k numbers are, and (each by its flag) the server's, Still, Reset, Again. -/
def saidG (p : Pm) (k : Nat) (s t r a : Bool) (id : Int) : Option (List Int) :=
  if id = 0 then (if s then some p.orig else none)
  else if id = 2 then (if r then some p.reset else none)
  else if id = 12 then (if t then some [] else none)
  else if id = 15 then some p.first
  else if id = 16 then (if a then some p.again else none)
  else match fidx id with
    | some j => if j < k ∧ p.nk j ≠ fnone j then some (encV (p.nk j)) else none
    | none => none
theorem saidG_end (p : Pm) (server : Bool) (id : Int) : saidG p 12 server p.still p.hasReset p.hasAgain id = said encV p server id := by
  unfold saidG said
  cases hx : fidx id with
  | none => rfl
  | some j =>
    have hj := (fidx_some hx).1
    simp only
    by_cases h : p.nk j = fnone j <;> simp [h, hj]
theorem saidG_0 (p : Pm) (j : Int) : saidG p 0 false false false false j = if j = 15 then some p.first else none := by
  unfold saidG
  by_cases h : j = 15
  · subst h; rfl
  · rw [if_neg h, if_neg h]
    (repeat' split) <;> first | rfl | simp_all
theorem saidG_same (p : Pm) {k : Nat} (s t r a : Bool) (hk : k < 12) (h : p.nk k = fnone k) : saidG p (k + 1) s t r a = saidG p k s t r a := by
  funext j
  unfold saidG
  cases hx : fidx j with
  | none => rfl
  | some i =>
    simp only
    by_cases hi : i = k
    · subst hi; simp [h]
    · have : (i < k + 1) ↔ (i < k) := by omega
      simp only [this]
theorem saidG_num (p : Pm) {k : Nat} (s t r a : Bool) (hk : k < 12) (h : p.nk k ≠ fnone k) (j : Int) : saidG p (k + 1) s t r a j = if j = fid k then some (encV (p.nk k)) else saidG p k s t r a j := by
  obtain ⟨g0, g2, g12, g15, g16, _, _⟩ := fid_odd k hk
  unfold saidG
  by_cases hj : j = fid k
  · subst hj
    rw [if_neg g0, if_neg g2, if_neg g12, if_neg g15, if_neg g16, fidx_fid k hk, if_pos rfl]
    simp [h]
  · rw [if_neg hj]
    cases hx : fidx j with
    | none => rfl
    | some i =>
      have hi : i ≠ k := fun e => hj (by rw [← e]; exact ((fidx_some hx).2).symm)
      have : (i < k + 1) ↔ (i < k) := by omega
      simp only [this]
theorem saidG_s (p : Pm) (k : Nat) (t r a : Bool) (j : Int) : saidG p k true t r a j = if j = 0 then some p.orig else saidG p k false t r a j := by
  unfold saidG
  by_cases h : j = 0
  · rw [if_pos h, if_pos h]; rfl
  · rw [if_neg h, if_neg h, if_neg h]
theorem saidG_t (p : Pm) (k : Nat) (s r a : Bool) (j : Int) : saidG p k s true r a j = if j = 12 then some [] else saidG p k s false r a j := by
  unfold saidG
  by_cases h : j = 12
  · subst h; rfl
  · rw [if_neg h, if_neg h, if_neg h]
theorem saidG_r (p : Pm) (k : Nat) (s t a : Bool) (j : Int) : saidG p k s t true a j = if j = 2 then some p.reset else saidG p k s t false a j := by
  unfold saidG
  by_cases h : j = 2
  · subst h; rfl
  · rw [if_neg h, if_neg h, if_neg h]
theorem saidG_a (p : Pm) (k : Nat) (s t r : Bool) (j : Int) : saidG p k s t r true j = if j = 16 then some p.again else saidG p k s t r false j := by
  unfold saidG
  by_cases h : j = 16
  · subst h; rfl
  · rw [if_neg h, if_neg h, if_neg h]
set_option maxRecDepth 100000 in
theorem put_bad (hs : Sz p) (server : Bool) (Ao Af Aa : Option Addr) (co cf ca : Nat) (hc : p.check server = false) :
    Calls Tryd.prog 8 #[.agg (pmRow p (.slice Ao p.orig.length co) (.slice Af p.first.length cf) (.slice Aa p.again.length ca)), .bool server] W fun e w' =>
      e = .returned (.tuple #[.slice none 0 0, .int .i64 2]) ∧ Below W.heap.size W w' := by
  have HS := Aside0.mk hs
  have CK : Aside0 (∀ W', Calls Tryd.prog 13 #[.agg (pmRow p (.slice Ao p.orig.length co) (.slice Af p.first.length cf) (.slice Aa p.again.length ca)), .bool server] W' fun e w' => e = .returned (.int .i64 2) ∧ Below W'.heap.size W' w') := ⟨fun W' => by
    have h := check_s (W := W') hs server Ao Af Aa co cf ca
    rw [show codeOf p server = 2 by unfold codeOf; rw [hc]; rfl] at h
    exact h⟩
  have HB := Aside0.mk (Bl.alloc (Below.refl _ W) (.cells (pmRow p (.slice Ao p.orig.length co) (.slice Af p.first.length cf) (.slice Aa p.again.length ca)) 25 (0, 0)))
  clear hs hc
  go_enter Tryd.func8, Tryd.ntmps8
  go_wp2_with (first
    | ((with_reducible refine gate_ld (t := 25) rfl ?_); refine wpList_load_row rfl 25 (.tmp 2) rfl W.heap.size rfl 25 _ (0, 0) _ (heap_alloc_new W _) Tryd.underlying25 rfl (by rw [row_size HS.out]; exact params_size) ?_)
    | (go_at_call 13; (with_reducible refine (CK.out _).mono ?_); rintro e w1 ⟨rfl, hb⟩; have HB1 := Aside0.mk (Bl.then HB.out hb); clear hb))
  go_ret2
  exact ⟨rfl, HB1.out⟩
/-- What is put of the numbers below j. -/
def flatTo (p : Pm) (server : Bool) (j : Nat) : List Int := flat encV (((List.range j).map (fun (k : Nat) => Int.ofNat k)).filterMap (fun id => (said encV p server id).map (fun v => (id, v))))
theorem flatTo_end (p : Pm) (server : Bool) : flatTo p server 33 = put encV p server := rfl
theorem flatTo_next (p : Pm) (server : Bool) (j : Nat) : flatTo p server (j + 1) = flatTo p server j ++ (match said encV p server j with | none => [] | some v => layE encV ((j : Int), v)) := by
  unfold flatTo
  rw [List.range_succ, List.map_append, List.filterMap_append, flat_append]
  congr 1
  simp only [List.map_cons, List.map_nil, List.filterMap_cons, List.filterMap_nil]
  rw [show Int.ofNat j = (j : Int) from rfl]
  cases said encV p server (j : Int) with
  | none => rfl
  | some v => simp [flat]
theorem said_len {p : Pm} {server : Bool} (hs : Sz p) (hc : p.check server = true) {id : Int} {xs : List Int} (h : said encV p server id = some xs) : xs.length ≤ 20 := by
  obtain ⟨c1, c2, c3, c4, _⟩ := check_true hc
  unfold said at h
  split at h
  · split at h
    · obtain rfl := Option.some.inj h; exact c2
    · cases h
  split at h
  · split at h
    · obtain rfl := Option.some.inj h; rw [hs.r]; decide
    · cases h
  split at h
  · split at h
    · obtain rfl := Option.some.inj h; decide
    · cases h
  split at h
  · obtain rfl := Option.some.inj h; exact c3
  split at h
  · split at h
    · obtain rfl := Option.some.inj h; exact c4
    · cases h
  cases hx : fidx id with
  | none => rw [hx] at h; simp at h
  | some k =>
    rw [hx] at h
    simp only at h
    obtain ⟨hk, _⟩ := fidx_some hx
    have a := c1 k hk
    have b := fmost_top k hk
    split at h
    · cases h
    · obtain rfl := Option.some.inj h
      have := codec.len (p.nk k) (by omega) (by omega)
      omega
theorem flatTo_len (p : Pm) (server : Bool) (hc : p.check server = true) (hs : Sz p) : ∀ j : Nat, (flatTo p server j).length ≤ 64 * j
  | 0 => by simp [flatTo, flat]
  | j + 1 => by
    by_cases hj : (j : Int) ≤ top
    · have ih := flatTo_len p server hc hs j
      rw [flatTo_next, List.length_append]
      cases hx : said encV p server (j : Int) with
      | none => simp only [List.length_nil]; omega
      | some v =>
        have l0 := said_len hs hc hx
        have l1 := codec.len (j : Int) (by omega) hj
        have l2 := codec.len (v.length : Int) (by omega) (by unfold top; omega)
        simp only [layE, List.length_append]; omega
    · have ih := flatTo_len p server hc hs j
      rw [flatTo_next, List.length_append]
      have : said encV p server (j : Int) = none := by
        unfold top at hj
        unfold said
        rw [if_neg (by omega), if_neg (by omega), if_neg (by omega), if_neg (by omega), if_neg (by omega)]
        cases hx : fidx (j : Int) with
        | none => rfl
        | some k =>
          obtain ⟨hk, he⟩ := fidx_some hx
          have := (fid_odd k hk).2.2.2.2.2.2
          omega
      rw [this]; simp only [List.length_nil]; omega
theorem wf_small (j : Nat) (h : j ≤ 33) : (Lit.int .i64 (j : Int)).wf = true := by
  have m0 : IntKind.i64.min = -9223372036854775808 := by decide +kernel
  have m1 : IntKind.i64.max = 9223372036854775807 := by decide +kernel
  simp [Lit.wf]; omega
theorem fid_wf : ∀ k, k < 12 → (Lit.int .i64 (fid k)).wf = true := by decide
theorem bel_of_drew {w : World} (h : Below W.drew.heap.size W.drew w) : Below W.heap.size W w := ⟨h.os, h.tape, h.output, h.size, h.block⟩
set_option maxRecDepth 100000 in
set_option maxHeartbeats 3200000 in
theorem put_s (hG : GL W) (hs : Sz p) (server : Bool) (Ao Af Aa : Option Addr) (co cf ca : Nat) (so : Sl W (.slice Ao p.orig.length co) p.orig) (sf : Sl W (.slice Af p.first.length cf) p.first) (sa : Sl W (.slice Aa p.again.length ca) p.again)
    (hc : p.check server = true) :
    Calls Tryd.prog 8 #[.agg (pmRow p (.slice Ao p.orig.length co) (.slice Af p.first.length cf) (.slice Aa p.again.length ca)), .bool server] W fun e w' =>
      ∃ v, e = .returned (.tuple #[v, .int .i64 0]) ∧ (Kd.int .u8).R 5 w' W.heap.size (fun _ => True) v (put encV p server) ∧ Below W.heap.size W w' := by
  obtain ⟨vo, hvo⟩ : ∃ v, Value.slice Ao p.orig.length co = v := ⟨_, rfl⟩
  obtain ⟨vf, hvf⟩ : ∃ v, Value.slice Af p.first.length cf = v := ⟨_, rfl⟩
  obtain ⟨va, hva⟩ : ∃ v, Value.slice Aa p.again.length ca = v := ⟨_, rfl⟩
  have HS := Aside0.mk hs
  have CK : Aside0 (∀ W', Calls Tryd.prog 13 #[.agg (pmRow p vo vf va), .bool server] W' fun e w' => e = .returned (.int .i64 0) ∧ Below W'.heap.size W' w') := ⟨fun W' => by
    have h := check_s (W := W') hs server Ao Af Aa co cf ca
    rw [show codeOf p server = 0 by unfold codeOf; rw [hc]; rfl, hvo, hvf, hva] at h
    exact h⟩
  have H0 : Aside0 (∀ w1, Below (W.alloc (.cells (pmRow p vo vf va) 25 (0, 0))).heap.size (W.alloc (.cells (pmRow p vo vf va) 25 (0, 0))) w1 →
      (Instr.mapUpdate 52 (.map (some w1.heap.size)) (.int .i64 15) vf).run Tryd.prog (w1.alloc (.map #[] 0)) = .ok () (upd (w1.alloc (.map #[] 0)) w1.heap.size 15 vf) ∧
      PuSt W (upd (w1.alloc (.map #[] 0)) w1.heap.size 15 vf) W.heap.size w1.heap.size 1 (putL [] 15 vf) (saidG p 0 false false false false) p vo vf va ∧ ∀ X, (w1.alloc X).cell? ⟨W.heap.size, 14, none⟩ = some vf) := ⟨fun w1 hb => by
    rw [hvo] at so; rw [hvf] at sf; rw [hva] at sa
    have hb0 := Bl.alloc (Below.refl _ W) (.cells (pmRow p vo vf va) 25 (0, 0))
    have hb1 := Bl.then hb0 hb
    have hb2 := Bl.alloc hb1 (.map #[] 0)
    have hpm : PmAt (W.alloc (.cells (pmRow p vo vf va) 25 (0, 0))) W.heap.size p vo vf va := heap_alloc_new W _
    have st : PuSt W (w1.alloc (.map #[] 0)) W.heap.size w1.heap.size 0 [] (fun _ => none) p vo vf va :=
      ⟨hb2, (hpm.below hb hpm.lt).below (Bl.alloc (Below.refl _ w1) _) ((hpm.below hb hpm.lt).lt), Rm.made w1 _ _, fun _ => rfl, gl_same hG (Sames.of_below hb2), so.below hb2, sf.below hb2, sa.below hb2, hb1.size, Nat.le_refl _⟩
    obtain ⟨r1, r2, _⟩ := st.put (by decide) (k := 15) (by decide) (v := vf) (xs := p.first) st.sf (saidG_0 p)
    exact ⟨r1, r2, fun X => (((hpm.below hb hpm.lt).below (Bl.alloc (Below.refl _ w1) X) ((hpm.below hb hpm.lt).lt)).cells HS.out).2.2.1⟩⟩
  have HCK := Aside0.mk hc
  rw [hvo, hvf, hva]
  clear hs so sf sa hG hc hvo hvf hva
  have hmm := @run_makeMap Tryd.prog
  go_enter Tryd.func8, Tryd.ntmps8
  go_upto_region 4 with (first
    | ((with_reducible refine gate_ld (t := 25) rfl ?_); refine wpList_load_row rfl 25 (.tmp 2) rfl W.heap.size rfl 25 _ (0, 0) _ (heap_alloc_new W _) Tryd.underlying25 rfl (by rw [row_size HS.out]; exact params_size) ?_)
    | (go_at_call 13; (with_reducible refine (CK.out _).mono ?_); rintro e w1 ⟨rfl, hb⟩; obtain ⟨hu, hst, q14⟩ := H0.out _ hb; have HSt := Aside0.mk hst; clear hst hb H0 CK))
  go_upto_region 6 with (first
    | (go_at_call 19; (with_reducible refine (fields_s _).mono ?_); rintro e w2 ⟨b, rfl, hf, hlt, hb⟩; have HF := Aside0.mk hf; have HSt2 := Aside0.mk (HSt.out.below hb); clear hf hb HSt))
  clear hu q14 hlt
  obtain ⟨m, hm⟩ : ∃ m, w1.heap.size = m := ⟨_, rfl⟩
  rw [hm] at HSt2 ⊢
  clear hm
  go_loopw [26] (fun iv W' => ∃ (j n : Nat) (kv : KV), j ≤ 12 ∧ iv = .int .i64 j ∧ n ≤ j + 1 ∧ PuSt W W' W.heap.size m n kv (saidG p j false false false false) p vo vf va ∧ FldAt W' b W.heap.size) (fun iv _ => 12 - (intOf iv).toNat)
  case atStart => exact ⟨0, 1, _, by omega, rfl, by omega, HSt2.out, HF.out⟩
  case round =>
    obtain ⟨j, n, kv, hj, rfl, hn, hst, hf⟩ := hrel
    have HE := Aside0.mk hst
    have HG := Aside0.mk hf
    clear hst hf HSt2 HF
    by_cases hlt : j < 12
    · obtain ⟨c0, c1, c2, c3, c4⟩ := HG.out.cells hlt
      have HX : Aside0 (∀ X q, PuSt W ((wr.alloc X).drewN q) W.heap.size m n kv (saidG p j false false false false) p vo vf va) := ⟨fun X q => HE.out.below (Bl.drewN (Bl.alloc (Below.refl _ _) X) q)⟩
      have HY : Aside0 (∀ X q, FldAt ((wr.alloc X).drewN q) b W.heap.size) := ⟨fun X q => HG.out.below (Bl.drewN (Bl.alloc (Below.refl _ _) X) q) HG.out.lt⟩
      have hc : ∀ X, (wr.alloc X).cell? ⟨W.heap.size, foff j, none⟩ = some (.int .i64 (p.nk j)) := fun X => (HX.out X 0).pm.num HS.out hlt
      by_cases he : p.nk j = fnone j
      · have hbn : (p.nk j != fnone j) = false := by simp [he]
        have HH := Aside0.mk he
        clear he
        go_upto_region 8 with fail
        go_quiet (fail)
        go_wp2_with fail
        go_roundw
        case rel => exact ⟨j + 1, n, kv, by omega, by go_num, by omega, by rw [saidG_same p _ _ _ _ hlt HH.out]; exact HX.out _ _, HY.out _ _⟩
        case measure => simp [intOf]; omega
      · have hbn : (p.nk j != fnone j) = true := by simp [he]
        have HH := Aside0.mk he
        clear he
        go_upto_region 8 with fail
        go_quiet (fail)
        go_upto_region 9 with fail
        have HSx := Aside0.mk (HX.out (.cells #[.int .i64 (fid j), .pointer (some ⟨W.heap.size, foff j, none⟩), .int .i64 (fleast j), .int .i64 (fmost j), .int .i64 (fnone j)] 57 (0, 0)) nq)
        have HFx := Aside0.mk (HY.out (.cells #[.int .i64 (fid j), .pointer (some ⟨W.heap.size, foff j, none⟩), .int .i64 (fleast j), .int .i64 (fmost j), .int .i64 (fnone j)] 57 (0, 0)) nq)
        have d0 : ((wr.alloc (.cells #[.int .i64 (fid j), .pointer (some ⟨W.heap.size, foff j, none⟩), .int .i64 (fleast j), .int .i64 (fmost j), .int .i64 (fnone j)] 57 (0, 0))).drewN nq).cell? ⟨wr.heap.size, 0, none⟩ = some (.int .i64 (fid j)) := by
          show (wr.alloc (.cells #[.int .i64 (fid j), .pointer (some ⟨W.heap.size, foff j, none⟩), .int .i64 (fleast j), .int .i64 (fmost j), .int .i64 (fnone j)] 57 (0, 0))).cell? ⟨wr.heap.size, 0, none⟩ = _
          rw [cell_of_row _ _ _ _ _ _ (heap_alloc_new wr _)]; rfl
        have d1 : ((wr.alloc (.cells #[.int .i64 (fid j), .pointer (some ⟨W.heap.size, foff j, none⟩), .int .i64 (fleast j), .int .i64 (fmost j), .int .i64 (fnone j)] 57 (0, 0))).drewN nq).cell? ⟨wr.heap.size, 1, none⟩ = some (.pointer (some ⟨W.heap.size, foff j, none⟩)) := by
          show (wr.alloc (.cells #[.int .i64 (fid j), .pointer (some ⟨W.heap.size, foff j, none⟩), .int .i64 (fleast j), .int .i64 (fmost j), .int .i64 (fnone j)] 57 (0, 0))).cell? ⟨wr.heap.size, 1, none⟩ = _
          rw [cell_of_row _ _ _ _ _ _ (heap_alloc_new wr _)]; rfl
        have d2 := HSx.out.pm.num HS.out hlt
        obtain ⟨wx, hwx⟩ : ∃ wx, (wr.alloc (.cells #[.int .i64 (fid j), .pointer (some ⟨W.heap.size, foff j, none⟩), .int .i64 (fleast j), .int .i64 (fmost j), .int .i64 (fnone j)] 57 (0, 0))).drewN nq = wx := ⟨_, rfl⟩
        rw [hwx] at HSx HFx d0 d1 d2
        simp only [hwx]
        clear hwx hc HX HY HE HG c0 c1 c2 c3 c4
        have hrng := (check_true HCK.out).1 j hlt
        have htop := fmost_top j hlt
        have PT := Aside0.mk (putnil_s (W := wx.drew) (gl_same HSx.out.gl (fun a v h => h)) (p.nk j) (by omega) (by omega))
        have hwf := fid_wf j hlt
        clear hrng htop
        go_region_held3 (fun w' => w'.cell? ⟨wr.heap.size, 0, none⟩ = some (.int .i64 (fid j)) ∧ w'.cell? ⟨wr.heap.size, 1, none⟩ = some (.pointer (some ⟨W.heap.size, foff j, none⟩)) ∧ w'.cell? ⟨W.heap.size, foff j, none⟩ = some (.int .i64 (p.nk j)))
          (first | exact ⟨d0, d1, d2⟩ | (simp [go_sem, *]; done))
          (first | (go_at_call 20; (refine PT.out.mono ?_); rintro e w4 ⟨v', rfl, hsl, hb⟩; have HB4 := Aside0.mk (bel_of_drew hb); have HU := Aside0.mk ((HSx.out.below HB4.out).put (by unfold maxLen; omega) hwf hsl (saidG_num p _ _ _ _ hlt HH.out)); have HF4 := Aside0.mk (((HU.out.2.2.block b (HFx.out.below HB4.out HFx.out.lt).lt (fun e => map_ne_cells (HSx.out.below HB4.out).mp (HFx.out.below HB4.out HFx.out.lt) e.symm))).trans (HFx.out.below HB4.out HFx.out.lt)); have hup := HU.out.1; have hss := HU.out.2.2.sames (HSx.out.below HB4.out).mp; have n0 := Bl.cell HB4.out d0; have n1 := Bl.cell HB4.out d1; have n2 := Bl.cell HB4.out d2; have m0 := hss _ _ n0; have m1 := hss _ _ n1; have m2 := hss _ _ n2; clear hb hsl hss d0 d1 d2; have d0 := n0; have d1 := n1; have d2 := n2; clear n0 n1 n2))
        go_wp2_with fail
        go_roundw
        case rel => exact ⟨j + 1, n + 1, _, by omega, by go_num, by omega, HU.out.2.1, HF4.out⟩
        case measure => simp [intOf]; omega
    · obtain rfl : j = 12 := by omega
      obtain ⟨st, hst⟩ : ∃ st, p.still = st := ⟨_, rfl⟩
      obtain ⟨sr, hsr⟩ : ∃ sr, p.hasReset = sr := ⟨_, rfl⟩
      obtain ⟨sa, hsa⟩ : ∃ sa, p.hasAgain = sa := ⟨_, rfl⟩
      have HT := Aside0.mk (And.intro hst (And.intro hsr hsa))
      clear hst hsr hsa
      go_upto_if 49 with fail
      go_cut [] from 50 to 52 (fun wc => ∃ (n : Nat) (kv : KV), n ≤ 14 ∧ PuSt W wc W.heap.size m n kv (saidG p 12 server false false false) p vo vf va)
      case first =>
        cases server with
        | false =>
          go_wp2_with fail
          go_meet
          exact ⟨n, kv, by omega, HE.out⟩
        | true =>
          obtain ⟨_, q13, q14, q15, q16, q33⟩ := HE.out.pm.cells HS.out
          have HU := Aside0.mk (HE.out.put (by unfold maxLen; omega) (k := 0) (by decide) HE.out.so (saidG_s p 12 false false false))
          have hup := HU.out.1
          go_wp2_with fail
          go_meet
          exact ⟨n + 1, _, by omega, HU.out.2.1⟩
      case rest =>
        obtain ⟨n1, kv1, hn1, hst1⟩ := hcut
        have HE1 := Aside0.mk hst1
        clear hst1 HE HG
        obtain ⟨q10, q13, q14, q15, q16, q33⟩ := HE1.out.pm.cells HS.out
        rw [HT.out.1] at q10; rw [HT.out.2.1] at q33; rw [HT.out.2.2] at q16
        go_upto_if 54 with fail
        go_cut [] from 55 to 55 (fun wc => ∃ (n : Nat) (kv : KV), n ≤ 15 ∧ PuSt W wc W.heap.size m n kv (saidG p 12 server st false false) p vo vf va)
        case first =>
          cases st with
          | false =>
            go_wp2_with fail
            go_meet
            exact ⟨n1, kv1, by omega, HE1.out⟩
          | true =>
            have HU := Aside0.mk (HE1.out.put (by unfold maxLen; omega) (k := 12) (by decide) (sl_nil _) (saidG_t p 12 server false false))
            have hup := HU.out.1
            go_wp2_with fail
            go_meet
            exact ⟨n1 + 1, _, by omega, HU.out.2.1⟩
        case rest =>
          obtain ⟨n2, kv2, hn2, hst2⟩ := hcut
          have HE2 := Aside0.mk hst2
          clear hst2 HE1 q10 q13 q14 q15 q16 q33
          obtain ⟨q10, q13, q14, q15, q16, q33⟩ := HE2.out.pm.cells HS.out
          rw [HT.out.1] at q10; rw [HT.out.2.1] at q33; rw [HT.out.2.2] at q16
          go_upto_if 57 with fail
          go_cut [] from 58 to 60 (fun wc => ∃ (n : Nat) (kv : KV), n ≤ 16 ∧ PuSt W wc W.heap.size m n kv (saidG p 12 server st sr false) p vo vf va)
          case first =>
            cases sr with
            | false =>
              go_wp2_with fail
              go_meet
              exact ⟨n2, kv2, by omega, HE2.out⟩
            | true =>
              have HU := Aside0.mk (HE2.out.put (by unfold maxLen; omega) (k := 2) (by decide) (HE2.out.pm.resetSl HS.out) (saidG_r p 12 server st false))
              have hup := HU.out.1
              go_wp2_with fail
              go_meet
              exact ⟨n2 + 1, _, by omega, HU.out.2.1⟩
          case rest =>
            obtain ⟨n3, kv3, hn3, hst3⟩ := hcut
            have HE3 := Aside0.mk hst3
            clear hst3 HE2 q10 q13 q14 q15 q16 q33
            obtain ⟨q10, q13, q14, q15, q16, q33⟩ := HE3.out.pm.cells HS.out
            rw [HT.out.1] at q10; rw [HT.out.2.1] at q33; rw [HT.out.2.2] at q16
            go_upto_if 62 with fail
            go_cut [] from 63 to 65 (fun wc => ∃ (n : Nat) (kv : KV), n ≤ 17 ∧ PuSt W wc W.heap.size m n kv (saidG p 12 server st sr sa) p vo vf va)
            case first =>
              cases sa with
              | false =>
                go_wp2_with fail
                go_meet
                exact ⟨n3, kv3, by omega, HE3.out⟩
              | true =>
                have HU := Aside0.mk (HE3.out.put (by unfold maxLen; omega) (k := 16) (by decide) HE3.out.sa (saidG_a p 12 server st sr))
                have hup := HU.out.1
                go_wp2_with fail
                go_meet
                exact ⟨n3 + 1, _, by omega, HU.out.2.1⟩
            case rest =>
              obtain ⟨n4, kv4, hn4, hst4⟩ := hcut
              have HE4 := Aside0.mk hst4
              have HG4 : Aside0 (saidG p 12 server st sr sa = said encV p server) := ⟨by rw [← HT.out.1, ← HT.out.2.1, ← HT.out.2.2]; exact funext (saidG_end p server)⟩
              clear hst4 HE3 q10 q13 q14 q15 q16 q33
              go_wp2_with fail
              go_loopw [10, 66] (fun ov iv W' => ∃ j : Nat, j ≤ 33 ∧ iv = .int .i64 j ∧ (Kd.int .u8).R 5 W' W.heap.size (fun _ => True) ov (flatTo p server j) ∧ PuSt W W' W.heap.size m n4 kv4 (saidG p 12 server st sr sa) p vo vf va) (fun _ iv _ => 33 - (intOf iv).toNat)
              case atStart => exact ⟨0, by omega, rfl, Kd.R_nil _ _ _ _ _, HE4.out⟩
              case round =>
                obtain ⟨j, hj, rfl, hR, hst⟩ := hrel
                have HR := Aside0.mk hR
                have HE := Aside0.mk hst
                clear hR hst HE4
                by_cases hlt : j < 33
                · have hlen := flatTo_len p server HCK.out HS.out j
                  have hlk := Rm.look_ok HE.out.mp law Tryd.underlying52 (z := nilS) (by kernel_rfl) (keyInt Tryd.underlying3 (x := (j : Int)) (wf_small j (by omega)))
                  have hh := HE.out.said (j : Int)
                  rw [HG4.out] at hh
                  cases hsd : said encV p server (j : Int) with
                  | none =>
                    rw [hsd] at hh
                    rw [show getL kv4 (j : Int) = none from hh] at hlk
                    simp only [Option.getD_none, Option.isSome_none] at hlk
                    have hnx : flatTo p server (j + 1) = flatTo p server j := by rw [flatTo_next, hsd]; simp
                    clear hh hsd
                    have HN := Aside0.mk hnx
                    clear hnx
                    go_wp2_with fail
                    go_roundw
                    case rel => exact ⟨j + 1, by omega, by go_num, by rw [HN.out]; exact HR.out, HE.out⟩
                    case measure => simp [intOf]; omega
                  | some xs =>
                    rw [hsd] at hh
                    obtain ⟨v, hv, hsl⟩ := hh
                    rw [hv] at hlk
                    simp only [Option.getD_some, Option.isSome_some] at hlk
                    have hnx : flatTo p server (j + 1) = flatTo p server j ++ layE encV (j, xs) := by rw [flatTo_next, hsd]
                    have hxl := said_len HS.out HCK.out hsd
                    have LY := Aside0.mk (lay_s HE.out.gl (sl_of_R HR.out) hsl (j : Int) (by omega) (by unfold top; omega) (by omega) (by omega))
                    clear hv hsd hsl hxl hlen
                    have HN := Aside0.mk hnx
                    clear hnx
                    go_wp2_with (first
                      | (go_at_call 21; (with_reducible refine LY.out.mono ?_); rintro e w5 ⟨s, rfl, hs5, hb5, hr5⟩; have HR5 := Aside0.mk (Kd.R_lower hr5 HE.out.bel.size); have HE5 := Aside0.mk (HE.out.below hb5); clear hs5 hb5 hr5))
                    go_roundw
                    case rel =>
                      refine ⟨_, _, _, _, _, _, _, _, _, _, _, _, _, _, _, _, _, _, _, ?_, rfl⟩
                      exact ⟨j + 1, by omega, by go_num, by rw [HN.out]; exact HR5.out, HE5.out⟩
                    case measure => simp [intOf]; omega
                · obtain rfl : j = 33 := by omega
                  go_wp2_with fail
                  go_ret2
                  exact ⟨_, rfl, HR.out, HE.out.bel⟩
end Go.Proofs.YtcidijmdndcdlaaDoor.Pr
