/- Parameters (layer 3): Read; no condition. -/
import Derived.Test.YtcidijmdndcdlaaDoorPr11
import Derived.Test.YtcidijmdndcdlaaDoorPrIs
set_option linter.unusedVariables false
set_option linter.unusedSimpArgs false
namespace Go.Proofs.YtcidijmdndcdlaaDoor.Pr
open Go Go.RowKit Go.Maps Go.Proofs.YtcidijmdndcdlaaDoor.Pm Go.Proofs.YtcidijmdndcdlaaDoor.Rm Go.Proofs.YtcidijmdndcdlaaDoor.OctM
open Go.Proofs.YtcidijmdndcdlaaDoorW.PrintWords Go.Proofs.YtcidijmdndcdlaaDoorW.PrintLast Go.Proofs.YtcidijmdndcdlaaDoorW.PrintMore
variable {W W' W0 : World} {g b B m n : Nat} {p : Pm} {vo vf va : Value} {kv : KV} {came : List Int}
/-- What Read tells: the record's texts are rows of its own. -/
structure Got (B : Nat) (w : World) (q : Pm) (vo vf va : Value) : Prop where
  sz : Sz q
  so : (Kd.int .u8).R 5 w B (fun _ => True) vo q.orig
  sf : (Kd.int .u8).R 5 w B (fun _ => True) vf q.first
  sa : (Kd.int .u8).R 5 w B (fun _ => True) va q.again
  ap : ∀ k, vo.ownBlock = some k → vf.ownBlock = some k → False
theorem Got.of (h : RdSt B W g p vo vf va) : Got B W p vo vf va := ⟨h.sz, Kd.R_mono h.so (fun _ _ => trivial), Kd.R_mono h.sf (fun _ _ => trivial), Kd.R_mono h.sa (fun _ _ => trivial), h.ap⟩
def nul : Pm := ⟨List.replicate 12 0, false, [], [], [], false, zeros, false⟩
theorem zero34_nul : zero34 = pmRow nul nilS nilS nilS := by rfl
theorem nul_sz : Sz nul := ⟨rfl, rfl⟩
theorem Got.below (h : Got B W p vo vf va) (hb : Below W.heap.size W W') : Got B W' p vo vf va := ⟨h.sz, Kd.R_below h.so hb, Kd.R_below h.sf hb, Kd.R_below h.sa hb, h.ap⟩
/-- Read. -/
def readB (server : Bool) (xs : List Int) : Int × Pm := Pm.read varF server (xs.length + 1) xs [] dflt
theorem read_codes (server : Bool) : ∀ (f : Nat) (bs came : List Int) (p : Pm), (Pm.read varF server f bs came p).1 = 0 ∨ (Pm.read varF server f bs came p).1 = 10 ∨ (Pm.read varF server f bs came p).1 = 11 ∨ (Pm.read varF server f bs came p).1 = 13 := by
  intro f
  induction f with
  | zero => intro bs came p; exact .inl rfl
  | succ f ih =>
    intro bs came p
    rw [Pm.read]
    split
    · split <;> simp
    · split
      · simp
      · split
        · simp
        · split
          · exact ih _ _ _
          · simp
theorem readB_codes (server : Bool) (xs : List Int) : (readB server xs).1 = 0 ∨ (readB server xs).1 = 10 ∨ (readB server xs).1 = 11 ∨ (readB server xs).1 = 13 := read_codes server _ _ _ _
theorem below_setRow {B : Nat} {g : Nat} (h : Below B W0 W) (hg : B ≤ g) (cs : Array Value) : Below B W0 (W.setRow g cs) :=
  ⟨h.os, h.tape, h.output, by rw [size_setRow]; exact h.size, fun k hk => (setRow_other W g k cs (by omega)).trans (h.block k hk)⟩
theorem res_ct {P : Program} {fn : Func} {p u : Tmp} {ty : TypeId} (h : fn.results = #[.cell p ty, .tmp u]) (tmps : Array Value) (w : World) (g : Nat) (t : TypeId) (cs : Array Value) (fr : Nat × Nat) (d : TypeDesc)
    (hp : tmps.getD p undef = .pointer (some ⟨g, 0, none⟩)) (hg : w.heap[g]? = some (.cells cs t fr))
    (hu : P.underlying ty = some d) (hd : (match d with | .struct _ | .array _ _ => true | _ => false) = true) (hi : (P.info? ty).map (·.size) = some cs.size) :
    (results fn tmps).run P w = .ok (.tuple #[.agg cs, tmps.getD u undef]) w := by
  have hp' : tmps[p]?.getD undef = .pointer (some ⟨g, 0, none⟩) := by simpa using hp
  simp [results, h, hp', asAddr, run_loadVar_row w g t ty cs fr d hg hu hd hi]
set_option maxRecDepth 100000 in
set_option maxHeartbeats 3200000 in
theorem read_ok (hG : GL W) {v : Value} {xs : List Int} (hv : Sl W v xs) (hb : Bytes xs) (hl : xs.length ≤ big) (server : Bool) :
    Calls Tryd.prog 10 #[v, .bool server] W fun e w' => Below W.heap.size W w' ∧ ∃ code q, readB server xs = (code, q) ∧
      ((code = 0 ∧ ∃ vo vf va, e = .returned (.tuple #[.agg (pmRow q vo vf va), .int .i64 0]) ∧ Got W.heap.size w' q vo vf va) ∨ ((code = 10 ∨ code = 11 ∨ code = 13) ∧ e = .returned (.tuple #[.agg (pmRow nul nilS nilS nilS), .int .i64 code]))) := by
  obtain ⟨Z, hZ⟩ : ∃ Z, (W.alloc (.cells zero34 25 (0, 0))) = Z := ⟨_, rfl⟩
  have hZs : Z.heap.size = W.heap.size + 1 := by rw [← hZ, alloc_size]
  have hZb : Below W.heap.size W Z := by rw [← hZ]; exact Bl.alloc (Below.refl _ W) _
  have hZ0 : Z.heap[W.heap.size]? = some (.cells zero34 25 (0, 0)) := by rw [← hZ]; exact heap_alloc_new W _
  have hpos : 0 < W.heap.size := by
    have := World.block_lt_of_cell? W _ hG.c0
    omega
  have H0 : Aside0 (∀ w1, Below Z.heap.size Z w1 →
      Below Z.heap.size Z (w1.alloc (.cells (pmRow dflt nilS nilS nilS) 25 (0, 0))) ∧ RdSt Z.heap.size (w1.alloc (.cells (pmRow dflt nilS nilS nilS) 25 (0, 0))) w1.heap.size dflt nilS nilS nilS) := ⟨fun w1 hb =>
    ⟨Bl.alloc hb _, ⟨heap_alloc_new w1 _, dflt_sz, Kd.R_nil _ _ _ _ _, Kd.R_nil _ _ _ _ _, Kd.R_nil _ _ _ _ _, fun k hk => by simp [Value.ownBlock] at hk, hb.size, by omega⟩⟩⟩
  have RS : Aside0 (∀ w' g', Below Z.heap.size Z w' → RdSt Z.heap.size w' g' dflt nilS nilS nilS → Calls Tryd.prog 22 #[.pointer (some ⟨g', 0, none⟩), v, .bool server] w' fun e w'' => Below Z.heap.size Z w'' ∧ ∃ code q, readB server xs = (code, q) ∧
      ((code = 0 ∧ e = .returned .nilIface ∧ ∃ vo' vf' va', RdSt Z.heap.size w'' g' q vo' vf' va') ∨ ((code = 10 ∨ code = 11 ∨ code = 13) ∧ e = .returned (errV code)))) := ⟨fun w' g' hbl hst => read_s hst hbl (gl_same hG (Sames.of_below (Bl.then hZb hbl))) (hv.below hZb) hb hl server⟩
  have HZ := Aside0.mk (And.intro hZs (And.intro hZb hZ0))
  clear hG hv hb hl hpos hZs hZb hZ0
  go_enter Tryd.func10, Tryd.ntmps10
  obtain ⟨code, q, hcq⟩ : ∃ code q, readB server xs = (code, q) := ⟨_, _, rfl⟩
  go_upto_region 1 with fail
  go_upto_region 2 with (first
    | (go_at_call 9; (with_reducible refine default_s.mono ?_); rintro e w1 ⟨rfl, hb⟩; obtain ⟨a2, a3⟩ := H0.out _ hb; have HA := Aside0.mk (And.intro a2 a3); clear hb a2 a3 H0)
    | ((with_reducible refine gate_st (t := 25) (p := .tmp 6) (v := .tmp 10) rfl ?_); refine wpList_store_row rfl 25 (.tmp 6) (.tmp 10) rfl w1.heap.size (pmRow dflt nilS nilS nilS) rfl rfl 25 _ (heap_alloc_new w1 _) (by rw [row_size dflt_sz]; exact params_size) (by rw [row_size dflt_sz]; rfl) (row_one dflt_sz rfl rfl rfl) ?_; rw [World.setRow_alloc_new]))
  have RC := Aside0.mk (RS.out _ _ HA.out.1 HA.out.2)
  rw [hcq] at RC
  clear hZ RS HA
  have HCQ := Aside0.mk hcq
  clear hcq
  by_cases hcode : code = 0
  · subst hcode
    have RC0 : Aside0 (Calls Tryd.prog 22 #[.pointer (some ⟨w1.heap.size, 0, none⟩), v, .bool server] (w1.alloc (.cells (pmRow dflt nilS nilS nilS) 25 (0, 0))) fun e w'' => e = .returned .nilIface ∧ Below Z.heap.size Z w'' ∧ ∃ vo' vf' va', RdSt Z.heap.size w'' w1.heap.size q vo' vf' va') := ⟨RC.out.mono (by
      rintro e w'' ⟨hb, code', q', h, ⟨h0, rfl, hst⟩ | ⟨h0, rfl⟩⟩
      · injection h with e1 e2; subst e2; exact ⟨rfl, hb, hst⟩
      · injection h with e1 e2; omega)⟩
    clear RC
    go_wp2_with (first
      | (go_at_call 22; (with_reducible refine RC0.out.mono ?_); rintro e w2 ⟨rfl, hb, vo', vf', va', hst⟩; have hb' := Bl.alloc hb (.cells #[.int .i64 10, .int .i64 13, .int .i64 11] 26 (0, 0)); have HD := Aside0.mk (And.intro hb' (hst.below (Bl.alloc (Below.refl _ w2) (.cells #[.int .i64 10, .int .i64 13, .int .i64 11] 26 (0, 0))))); clear hb hb' hst RC0))
    refine wp_loop_rounds 4 ?_
    rw [rounds_succ]
    go_wp2_with (go_at_call 23; (with_reducible refine (errno_nil _ _).mono ?_); rintro e w' ⟨rfl, rfl⟩)
    rw [rounds_succ]
    go_wp2_with (go_at_call 23; (with_reducible refine (errno_nil _ _).mono ?_); rintro e w' ⟨rfl, rfl⟩)
    rw [rounds_succ]
    go_wp2_with (go_at_call 23; (with_reducible refine (errno_nil _ _).mono ?_); rintro e w' ⟨rfl, rfl⟩)
    rw [rounds_succ]
    have hout := (HD.out.1.block _ (by have := HZ.out.1; omega)).trans HZ.out.2.2
    have HO := Aside0.mk hout
    clear hout
    go_wp2_with (first
      | ((with_reducible refine gate_ld (t := 25) rfl ?_); refine wpList_load_row rfl 25 (.tmp 6) rfl w1.heap.size rfl 25 _ (0, 0) _ HD.out.2.pm Tryd.underlying25 rfl (by rw [row_size HD.out.2.sz]; exact params_size) ?_)
      | ((with_reducible refine gate_st (t := 25) (p := .tmp 4) (v := .tmp 27) rfl ?_); refine wpList_store_row rfl 25 (.tmp 4) (.tmp 27) rfl W.heap.size (pmRow q vo' vf' va') rfl rfl 25 _ HO.out (by rw [row_size HD.out.2.sz]; exact params_size) (by rw [row_size HD.out.2.sz]; rfl) (row_one HD.out.2.sz HD.out.2.so.one HD.out.2.sf.one HD.out.2.sa.one) ?_))
    refine bodyPost_ret (res_ct rfl _ _ W.heap.size 25 (pmRow q vo' vf' va') (0, 0) _ rfl (setRow_heap _ W.heap.size _ _ _ _ HO.out) Tryd.underlying25 rfl (by rw [row_size HD.out.2.sz]; exact params_size)) rfl ?_
    refine ⟨below_setRow (Bl.then HZ.out.2.1 HD.out.1) (Nat.le_refl _) _, 0, q, HCQ.out, .inl ⟨rfl, vo', vf', va', rfl, ?_⟩⟩
    have hbm : ∀ k, k ≠ W.heap.size → ((w2.alloc (.cells #[.int .i64 10, .int .i64 13, .int .i64 11] 26 (0, 0))).setRow W.heap.size (pmRow q vo' vf' va')).heap[k]? = (w2.alloc (.cells #[.int .i64 10, .int .i64 13, .int .i64 11] 26 (0, 0))).heap[k]? := fun k hk => setRow_other _ W.heap.size k _ hk
    have hge := HZ.out.1
    have key : ∀ v xs, Ow (w2.alloc (.cells #[.int .i64 10, .int .i64 13, .int .i64 11] 26 (0, 0))) Z.heap.size w1.heap.size v xs → (Kd.int .u8).R 5 ((w2.alloc (.cells #[.int .i64 10, .int .i64 13, .int .i64 11] 26 (0, 0))).setRow W.heap.size (pmRow q vo' vf' va')) W.heap.size (fun _ => True) v xs := fun v xs h =>
      Kd.R_lower (Kd.R_mono (Kd.R_move (Kd.R_bound h) (fun k hk => hbm k (by have := hk.2.1; omega))) (fun _ _ => trivial)) (by omega)
    exact ⟨HD.out.2.sz, key _ _ HD.out.2.so, key _ _ HD.out.2.sf, key _ _ HD.out.2.sa, HD.out.2.ap⟩
  have hc3 : code = 10 ∨ code = 13 ∨ code = 11 := by
    have := readB_codes server xs
    rw [HCQ.out] at this
    simp only at this
    omega
  rcases hc3 with hc | hc | hc
  · obtain rfl : code = 10 := hc
    have RC0 : Aside0 (Calls Tryd.prog 22 #[.pointer (some ⟨w1.heap.size, 0, none⟩), v, .bool server] (w1.alloc (.cells (pmRow dflt nilS nilS nilS) 25 (0, 0))) fun e w'' => e = .returned (errV 10) ∧ Below Z.heap.size Z w'') := ⟨RC.out.mono (by
      rintro e w'' ⟨hb, code', q', h, ⟨h0, rfl, hst⟩ | ⟨h0, rfl⟩⟩
      · injection h with e1 e2; omega
      · injection h with e1 e2; rw [← e1]; exact ⟨rfl, hb⟩)⟩
    clear RC
    go_wp2_with (first
      | (go_at_call 22; (with_reducible refine RC0.out.mono ?_); rintro e w2 ⟨rfl, hb⟩; have HD := Aside0.mk (Bl.alloc hb (.cells #[.int .i64 10, .int .i64 13, .int .i64 11] 26 (0, 0))); clear hb RC0))
    refine wp_loop_rounds 4 ?_
    rw [rounds_succ]
    go_wp2_with (first
      | (go_at_call 23; (with_reducible refine (errno_is _ _ _).mono ?_); rintro e w' ⟨rfl, rfl⟩)
      | ((with_reducible refine gate_st (t := 25) (p := .tmp 4) (v := .tmp 24) rfl ?_); refine wpList_store_row rfl 25 (.tmp 4) (.tmp 24) rfl W.heap.size zero34 rfl rfl 25 _ ((HD.out.block _ (by have := HZ.out.1; omega)).trans HZ.out.2.2) params_size rfl (by kernel_rfl) ?_))
    refine bodyPost_ret (res_ct rfl _ _ W.heap.size 25 zero34 (0, 0) _ rfl (setRow_heap _ W.heap.size _ _ _ _ ((HD.out.block _ (by have := HZ.out.1; omega)).trans HZ.out.2.2)) Tryd.underlying25 rfl params_size) rfl ?_
    refine ⟨below_setRow (Bl.then HZ.out.2.1 HD.out) (Nat.le_refl _) _, 10, q, HCQ.out, .inr ⟨by omega, ?_⟩⟩
    rw [← zero34_nul]; rfl
  · obtain rfl : code = 13 := hc
    have RC0 : Aside0 (Calls Tryd.prog 22 #[.pointer (some ⟨w1.heap.size, 0, none⟩), v, .bool server] (w1.alloc (.cells (pmRow dflt nilS nilS nilS) 25 (0, 0))) fun e w'' => e = .returned (errV 13) ∧ Below Z.heap.size Z w'') := ⟨RC.out.mono (by
      rintro e w'' ⟨hb, code', q', h, ⟨h0, rfl, hst⟩ | ⟨h0, rfl⟩⟩
      · injection h with e1 e2; omega
      · injection h with e1 e2; rw [← e1]; exact ⟨rfl, hb⟩)⟩
    clear RC
    go_wp2_with (first
      | (go_at_call 22; (with_reducible refine RC0.out.mono ?_); rintro e w2 ⟨rfl, hb⟩; have HD := Aside0.mk (Bl.alloc hb (.cells #[.int .i64 10, .int .i64 13, .int .i64 11] 26 (0, 0))); clear hb RC0))
    refine wp_loop_rounds 4 ?_
    rw [rounds_succ]
    go_wp2_with (first
      | (go_at_call 23; (with_reducible refine (errno_is _ _ _).mono ?_); rintro e w' ⟨rfl, rfl⟩)
      | ((with_reducible refine gate_st (t := 25) (p := .tmp 4) (v := .tmp 24) rfl ?_); refine wpList_store_row rfl 25 (.tmp 4) (.tmp 24) rfl W.heap.size zero34 rfl rfl 25 _ ((HD.out.block _ (by have := HZ.out.1; omega)).trans HZ.out.2.2) params_size rfl (by kernel_rfl) ?_))
    rw [rounds_succ]
    go_wp2_with (first
      | (go_at_call 23; (with_reducible refine (errno_is _ _ _).mono ?_); rintro e w' ⟨rfl, rfl⟩)
      | ((with_reducible refine gate_st (t := 25) (p := .tmp 4) (v := .tmp 24) rfl ?_); refine wpList_store_row rfl 25 (.tmp 4) (.tmp 24) rfl W.heap.size zero34 rfl rfl 25 _ ((HD.out.block _ (by have := HZ.out.1; omega)).trans HZ.out.2.2) params_size rfl (by kernel_rfl) ?_))
    refine bodyPost_ret (res_ct rfl _ _ W.heap.size 25 zero34 (0, 0) _ rfl (setRow_heap _ W.heap.size _ _ _ _ ((HD.out.block _ (by have := HZ.out.1; omega)).trans HZ.out.2.2)) Tryd.underlying25 rfl params_size) rfl ?_
    refine ⟨below_setRow (Bl.then HZ.out.2.1 HD.out) (Nat.le_refl _) _, 13, q, HCQ.out, .inr ⟨by omega, ?_⟩⟩
    rw [← zero34_nul]; rfl
  · obtain rfl : code = 11 := hc
    have RC0 : Aside0 (Calls Tryd.prog 22 #[.pointer (some ⟨w1.heap.size, 0, none⟩), v, .bool server] (w1.alloc (.cells (pmRow dflt nilS nilS nilS) 25 (0, 0))) fun e w'' => e = .returned (errV 11) ∧ Below Z.heap.size Z w'') := ⟨RC.out.mono (by
      rintro e w'' ⟨hb, code', q', h, ⟨h0, rfl, hst⟩ | ⟨h0, rfl⟩⟩
      · injection h with e1 e2; omega
      · injection h with e1 e2; rw [← e1]; exact ⟨rfl, hb⟩)⟩
    clear RC
    go_wp2_with (first
      | (go_at_call 22; (with_reducible refine RC0.out.mono ?_); rintro e w2 ⟨rfl, hb⟩; have HD := Aside0.mk (Bl.alloc hb (.cells #[.int .i64 10, .int .i64 13, .int .i64 11] 26 (0, 0))); clear hb RC0))
    refine wp_loop_rounds 4 ?_
    rw [rounds_succ]
    go_wp2_with (first
      | (go_at_call 23; (with_reducible refine (errno_is _ _ _).mono ?_); rintro e w' ⟨rfl, rfl⟩)
      | ((with_reducible refine gate_st (t := 25) (p := .tmp 4) (v := .tmp 24) rfl ?_); refine wpList_store_row rfl 25 (.tmp 4) (.tmp 24) rfl W.heap.size zero34 rfl rfl 25 _ ((HD.out.block _ (by have := HZ.out.1; omega)).trans HZ.out.2.2) params_size rfl (by kernel_rfl) ?_))
    rw [rounds_succ]
    go_wp2_with (first
      | (go_at_call 23; (with_reducible refine (errno_is _ _ _).mono ?_); rintro e w' ⟨rfl, rfl⟩)
      | ((with_reducible refine gate_st (t := 25) (p := .tmp 4) (v := .tmp 24) rfl ?_); refine wpList_store_row rfl 25 (.tmp 4) (.tmp 24) rfl W.heap.size zero34 rfl rfl 25 _ ((HD.out.block _ (by have := HZ.out.1; omega)).trans HZ.out.2.2) params_size rfl (by kernel_rfl) ?_))
    rw [rounds_succ]
    go_wp2_with (first
      | (go_at_call 23; (with_reducible refine (errno_is _ _ _).mono ?_); rintro e w' ⟨rfl, rfl⟩)
      | ((with_reducible refine gate_st (t := 25) (p := .tmp 4) (v := .tmp 24) rfl ?_); refine wpList_store_row rfl 25 (.tmp 4) (.tmp 24) rfl W.heap.size zero34 rfl rfl 25 _ ((HD.out.block _ (by have := HZ.out.1; omega)).trans HZ.out.2.2) params_size rfl (by kernel_rfl) ?_))
    refine bodyPost_ret (res_ct rfl _ _ W.heap.size 25 zero34 (0, 0) _ rfl (setRow_heap _ W.heap.size _ _ _ _ ((HD.out.block _ (by have := HZ.out.1; omega)).trans HZ.out.2.2)) Tryd.underlying25 rfl params_size) rfl ?_
    refine ⟨below_setRow (Bl.then HZ.out.2.1 HD.out) (Nat.le_refl _) _, 11, q, HCQ.out, .inr ⟨by omega, ?_⟩⟩
    rw [← zero34_nul]; rfl
end Go.Proofs.YtcidijmdndcdlaaDoor.Pr
