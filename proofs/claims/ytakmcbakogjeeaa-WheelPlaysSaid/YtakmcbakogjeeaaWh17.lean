/- Wheels (layer 25): Pass; no condition. -/
import Derived.Test.YtakmcbakogjeeaaWh16
set_option linter.unusedVariables false
set_option linter.unusedSimpArgs false
namespace Go.Proofs.Ytakmcbakogjeeaa.Wh
open Go Go.RowKit Go.Maps Go.Proofs.Ytakmcbakogjeeaa.Rm Go.Proofs.Ytakmcbakogjeeaa.Rw
open Go.Proofs.YtakmcbakogjeeaaW.PrintWords Go.Proofs.YtakmcbakogjeeaaW.PrintLast Go.Proofs.YtakmcbakogjeeaaW.PrintMore
variable {W W' W2 : World} {b p m n : Nat} {now : Int} {kv : KV} {R : List Row} {L acc out : List Tm} {x x' : Row} {F F' F2 : Nat → Prop} {lv ov : Value} {lb : Nat}
abbrev IntsAt (W : World) (b : Nat) (v : Value) (l : List Int) : Prop := W.ownsRow b 3 1 v l.length (l.map (Value.int .i64))
theorem infoI : (Try.prog.info? 3).map (fun i => (i.zero, i.size, i.bytes)) = some (some (.int .i64 0), 1, 8) := by kernel_rfl
theorem ints_val {v : Value} {l : List Int} (h : IntsAt W b v l) : ∃ G c, v = .slice G l.length c := by
  rcases h.2 with ⟨h1, h2⟩ | ⟨g', cap', cur, h1, _⟩
  · exact ⟨none, 0, by rw [h1, h2]⟩
  · exact ⟨_, _, h1⟩
theorem run_addi {v : Value} {l : List Int} (h : IntsAt W b v l) (hbw : b ≤ W.heap.size) (hl : l.length + 1 ≤ 1099511627776) (k : Int) : ∃ G c w1,
    (∀ ty, (Builtin.append_ #[34, 34] ty #[v, .slice (some ⟨W.heap.size, 0, none⟩) 1 1]).run Try.prog (W.alloc (.cells #[.int .i64 k] 3)) = .ok (.slice G (l.length + 1) c) w1) ∧
    IntsAt w1 b (.slice G (l.length + 1) c) (l ++ [k]) ∧ W.grownBy w1 v.ownBlock := by
  obtain ⟨i0, hi, hz0, hz1, hz2⟩ := info_parts infoI
  have hb := below_alloc (Below.refl _ W) (.cells #[.int .i64 k] 3 (0, 0))
  have hnew := heap_alloc_new W (.cells #[.int .i64 k] 3 (0, 0))
  have h1 : IntsAt (W.alloc (.cells #[.int .i64 k] 3)) b v l := own_move h (fun q hq => hb.block q (by
    obtain ⟨cs, hc⟩ := own_typed h q hq
    exact (Array.getElem?_eq_some_iff.1 hc).1))
  obtain ⟨v1, w1, hr, g1, g2, g3, g4⟩ := run_append_own_at (P := Try.prog) (w := W.alloc (.cells #[.int .i64 k] 3)) b 34 34 3 i0 _ 1 8 Try.underlying34 hi hz0 hz1 hz2 rfl (by decide) v l.length _ h1 ⟨W.heap.size, 0, none⟩ 1 1 [.int .i64 k] rfl
    (fun j u hu => by
      rw [add_at, cell_of_row _ _ _ _ _ _ hnew, Nat.zero_add]
      simpa using hu) (fun u hu => by rw [List.mem_singleton.1 hu]; rfl) (by unfold maxLen; omega) (by omega) (by have := hb.size; omega)
  have hrow : IntsAt w1 b v1 (l ++ [k]) := by
    show w1.ownsRow b 3 1 v1 (l ++ [k]).length ((l ++ [k]).map (Value.int .i64))
    rw [List.length_append, List.map_append]
    exact g1
  obtain ⟨G, c, hv⟩ := ints_val hrow
  simp only [List.length_append, List.length_singleton] at hv
  subst hv
  exact ⟨G, c, w1, fun ty => hr, hrow, ⟨g2.os, g2.tape, g2.output, Nat.le_trans hb.size g2.size, fun q hq hn => (g2.block q (Nat.lt_of_lt_of_le hq hb.size) hn).trans (hb.block q hq)⟩⟩
theorem sorted_due {l : List Tm} (h : Tms L) (hp : l.Perm (dueL now L)) (hs : l.Pairwise (fun u v => ¬ lt v u)) : l = dueL now L := by
  have hk : l.Pairwise (fun a b => a.1 ≠ b.1) := (hp.pairwise_iff (fun {x y} hxy e => hxy e.symm)).2 (h.key.filter _)
  refine same_of_perm (hs.imp₂ (fun a b h1 h2 => (lt_total h2).resolve_right h1) hk) (h.srt.filter _) hp
/-- Behind the sort: the wheel, the row of those that are due. -/
theorem pass_sorted {W0 : World} {nw : Int} {R0 Ri : List Row} {G : Option Addr} {c : Nat} {l5 : List Tm} (h : WhS W0 b p m now L R0) (h0 : 0 ≤ nw) (h1 : nw ≤ 1125899906842624) (hpa : PassAt W b p m n nw kv Ri lv acc (.slice G out.length c) out) (hlf : Lf W0 W b (foot p m R0) (pfoot p m Ri lv (.slice G out.length c)))
    (z : Rims nw (Ri.map (·.2)) (ahead nw L) ∧ kv.Perm (kvOf (ahead nw L)) ∧ out.Perm (dueL nw L)) (y1 : RowAt W' b (.slice G out.length c, l5)) (y2 : l5.length = out.length) (y3 : W.grownBy W' (Value.slice G out.length c).ownBlock) (y4 : l5.Perm out) (y5 : l5.Pairwise (fun u v => ¬ lt v u)) (hb : b ≤ W0.heap.size) :
    out.length = (dueL nw L).length ∧ WhS W' b p m nw (ahead nw L) Ri ∧ Lf W0 W' b (foot p m R0) (foot p m Ri) ∧ RowAt W' b (.slice G (dueL nw L).length c, dueL nw L) := by
  have e : l5 = dueL nw L := sorted_due h.tms (y4.trans z.2.2) y5
  have hk : ∀ k, k < W.heap.size → (Value.slice G out.length c).ownBlock ≠ some k → W'.heap[k]? = W.heap[k]? := fun k hk hn => y3.block k hk (fun e => hn e.symm)
  have hwh : WhAt W' b p m n nw kv Ri := hpa.wh.move (fun k hf => hk k (hpa.wh.foot_ty hf).1 (fun e => hpa.ap2 k e hf))
  refine ⟨by rw [← e, y2], ⟨⟨kv, hwh.tight, z.2.1⟩, z.1, h.tms.filter _, h0, h1, Nat.le_trans (List.length_filter_le _ _) h.len, fun t ht => h.wf t (List.mem_filter.1 ht).1⟩, ⟨?_, fun k hk2 hn => ?_, fun k hf => ?_⟩, ?_⟩
  · exact hlf.bel.trans ⟨y3.os, y3.tape, y3.output, y3.size, fun k hk2 => hk k (by have := hlf.bel.size; omega) (fun e => by have := (RowAt.block hpa.out e).1; omega)⟩
  · refine (hk k (Nat.lt_of_lt_of_le hk2 hlf.bel.size) (fun e => ?_)).trans (hlf.keep k hk2 hn)
    rcases hlf.new k (.inr (.inr e)) with h | h
    · exact hn h
    · omega
  · exact hlf.new k (.inl hf)
  · rw [← e, y2]
    exact y1
/-- 'append' for the walk, where its run is known. -/
theorem wpList_app_run {P : Program} (w : World) {ops : Array Oper} {rest : List Oper} {o : Oper} {a : Act} {Q : Exit → Act → World → Prop} (hgd : o.guard = none) (s y : Operand) (t : TypeId)
    (ho : o.op = .call { callee := .builtin .append, args := #[s, y], argTypes := #[t, t] }) (v u : Value) (hs : a.eval s = v) (hy : a.eval y = u) {v1 : Value} {w1 : World}
    (hr : ∀ ty, (Builtin.append_ #[t, t] ty #[v, u]).run P w = .ok v1 w1) (h : wpList P ops Q rest (a.put o.dst v1) w1) : wpList P ops Q (o :: rest) a w := by
  refine wpList_plain hgd fun K hK => ?_
  have hr' := hr o.type
  unfold Oper.wp execOp
  simp only [ho, resolve, invoke, builtin, Sem.run_bind, Sem.run_pure, Result.andThen_ok, List.map_toArray, List.map_cons, List.map_nil, hs, hy, hr']
  exact hK _ _ h
/-- The first loop under way. -/
def PassRel (W0 : World) (b p m : Nat) (nw : Int) (R0 : List Row) (S1 : List (List Tm)) (lv : Value) (acc : List Tm) (iv ov : Value) (W : World) : Prop :=
  ∃ (i : Nat) (n : Nat) (kv : KV) (Ri : List Row) (G : Option Addr) (c : Nat) (out : List Tm), iv = .int .i64 i ∧ ov = .slice G out.length c ∧ i ≤ acc.length ∧ out.length ≤ i ∧ PassAt W b p m n nw kv Ri lv acc (.slice G out.length c) out ∧ Lf W0 W b (foot p m R0) (pfoot p m Ri lv (.slice G out.length c)) ∧ Mid nw S1 acc i (Ri.map (·.2)) kv out
theorem ints_lower {b b' : Nat} {v : Value} {l : List Int} (hb : b ≤ b') (h : IntsAt W b' v l) : IntsAt W b v l := by
  refine ⟨h.1, ?_⟩
  rcases h.2 with e | ⟨g, cap, cur, h1, h2, h3⟩
  · exact .inl e
  · exact .inr ⟨g, cap, cur, h1, Nat.le_trans hb h2, h3⟩
theorem keys_below {w5 wr wA w2 : World} {v : Value} {l : List Int} (hbl : Below w5.heap.size w5 wr) (hk : IntsAt wr w5.heap.size v l) (hA : Below wr.heap.size wr wA) (hg : wA.grownBy w2 v.ownBlock) : Below w5.heap.size w5 w2 := by
  have h1 := hbl.trans (hA.mono hbl.size)
  refine h1.trans ⟨hg.os, hg.tape, hg.output, hg.size, fun k hkk => hg.block k (Nat.lt_of_lt_of_le hkk h1.size) (fun e => ?_)⟩
  rcases hk.2 with ⟨h2, _⟩ | ⟨g, cap, cur, h2, h3, _⟩
  · rw [h2] at e; cases e
  · rw [h2] at e
    simp [Value.ownBlock] at e
    omega
/-- The second loop under way. -/
def KeysRel (W5 : World) (D : List Tm) (iv kvv : Value) (W : World) : Prop := ∃ (i : Nat) (G : Option Addr) (c : Nat), iv = .int .i64 i ∧ kvv = .slice G i c ∧ i ≤ D.length ∧ IntsAt W W5.heap.size (.slice G i c) ((D.take i).map (·.1)) ∧ Below W5.heap.size W5 W
set_option maxRecDepth 100000 in
set_option maxHeartbeats 3200000 in
theorem pass_ok (h : WhS W b p m now L R) (hbw : b ≤ W.heap.size) {nw : Int} (h0 : 0 ≤ nw) (h1 : nw ≤ 1125899906842624) (hle : now ≤ nw) :
    Calls Try.prog 37 #[.pointer (some ⟨p, 0, none⟩), .int .i64 nw] W fun e w' => ∃ kvv, e = .returned (.tuple #[kvv, .int .i64 0]) ∧ ∃ R', WhS w' b p m nw (ahead nw L) R' ∧ Lf W w' b (foot p m R) (foot p m R') ∧ IntsAt w' W.heap.size kvv ((dueL nw L).map (·.1)) := by
  obtain ⟨kv, x, hkv⟩ := h.at_
  have HH := Aside0.mk h
  have CT := Aside0.mk (isTime_s nw W)
  have CN := Aside0.mk (none_s x)
  rw [show (decide (0 ≤ nw) && decide (nw ≤ 1125899906842624)) = true by simp [h0, h1]] at CT
  have c1 := x.c.2.1
  have f1 := x.free 1
  obtain ⟨x1, x2⟩ := x.setNow nw
  have hflat : ((R.map (·.2)).flatten).length ≤ 1099511627776 := by rw [h.rims.prm.length_eq]; have := h.len; omega
  have CD := Aside0.mk (due_s x1 (Nat.le_trans hbw x2.bel.size) h.n0 hle h1 hflat)
  have HX := Aside0.mk (And.intro x2 hkv)
  clear h x x1 x2 hkv hflat
  go_enter Try.func37, Try.ntmps37
  go_wp2_with (first
    | (go_at_call 82; (with_reducible refine CN.out.mono ?_); rintro e w' ⟨rfl, rfl⟩)
    | (go_at_call 81; (with_reducible refine CT.out.mono ?_); rintro e w' ⟨rfl, rfl⟩)
    | (go_at_call 87; (with_reducible refine CD.out.mono ?_); rintro e w1 ⟨lv, rfl, R1, acc, d1, d2, d3, d4, d5⟩; obtain ⟨Gl, cl, hlv⟩ := RowAt.val d2; simp only at hlv; subst hlv; have HD := Aside0.mk (And.intro d1 (And.intro d2 (And.intro d3 (And.intro d4 d5)))); clear d1 d2 d3 d4 d5))
  obtain ⟨q1, q2, q3⟩ := HD.out.2.2.2.2.fin HH.out.rims hle
  have HQ := Aside0.mk (And.intro q1 (And.intro q2 q3))
  have HACC : Aside0 (∀ t ∈ acc, 0 ≤ t.2 ∧ t.2 ≤ 1125899906842624 ∧ (Lit.int .i64 t.1).wf = true) := ⟨fun t ht => by
    have hm := q1.mem_iff.1 (List.mem_append_right _ ht)
    obtain ⟨a0, a1⟩ := HH.out.tms.tm t hm
    exact ⟨a0, a1, HH.out.wf t hm⟩⟩
  have hal : acc.length ≤ 65536 := by
    have := q1.length_eq
    rw [List.length_append] at this
    have := HH.out.len
    omega
  have hkv1 : kv.Perm (kvOf ((R1.map (·.2)).flatten ++ acc)) := HX.out.2.trans (q1.symm.map _)
  have HS := Aside0.mk (show PassRel W b p m nw R (R1.map (·.2)) (.slice Gl acc.length cl) acc (.int .i64 0) (.slice none 0 0) w1 from
    ⟨0, _, kv, R1, none, 0, [], rfl, rfl, Nat.zero_le _, Nat.zero_le _, ⟨HD.out.1, HD.out.2.1, World.ownsRow_nil _ _ _ _, HD.out.2.2.1, (fun k hk => by cases hk), fun k _ hk => by cases hk⟩, ⟨HX.out.1.bel.trans HD.out.2.2.2.1.bel, fun k hk hn => (HD.out.2.2.2.1.keep k (Nat.lt_of_lt_of_le hk HX.out.1.bel.size) hn).trans (HX.out.1.keep k hk hn), fun k hk => by
      rcases hk with hk | hk | hk
      · rcases HD.out.2.2.2.1.new k (.inl hk) with e | e
        · exact .inl e
        · exact .inr (Nat.le_trans HX.out.1.bel.size e)
      · rcases HD.out.2.2.2.1.new k (.inr hk) with e | e
        · exact .inl e
        · exact .inr (Nat.le_trans HX.out.1.bel.size e)
      · cases hk⟩, Mid.start HD.out.2.2.2.2.len q3 hkv1⟩)
  have hal64 : (acc.length : Int) ≤ 65536 := by omega
  clear q1 q2 q3 hkv1 HD c1 f1 CD
  go_loopw [39, 7] (fun iv ov W' => PassRel W b p m nw R (R1.map (·.2)) (.slice Gl acc.length cl) acc iv ov W') (fun iv _ _ => acc.length - (intOf iv).toNat)
  case atStart => exact HS.out
  case round =>
    clear HS
    obtain ⟨i, n, kvi, Ri, G, c, out, rfl, rfl, hi, hoi, hpa, hlf, hmid⟩ := hrel
    have HP := Aside0.mk (And.intro hpa (And.intro hlf hmid))
    have hbr : b ≤ wr.heap.size := Nat.le_trans hbw hlf.bel.size
    by_cases hlt : i < acc.length
    · obtain ⟨t, ht⟩ : ∃ t, acc[i]? = some t := ⟨_, List.getElem?_eq_getElem hlt⟩
      have HT := Aside0.mk ht
      obtain ⟨ha0, ha1, hwf⟩ := HACC.out t (List.mem_of_getElem? ht)
      obtain ⟨gl, hgl⟩ : ∃ gl, Gl = some ⟨gl, 0, none⟩ := by
        rcases RowAt.shape hpa.row with ⟨e1, e2⟩ | ⟨g, c', e1⟩
        · simp only at e2; rw [e2] at hlt; cases hlt
        · simp only at e1; injection e1 with e1 _ _; exact ⟨g, e1⟩
      subst hgl
      obtain ⟨r0, r1⟩ := RowAt.cells hpa.row ht
      by_cases hd : t.2 ≤ nw
      · obtain ⟨wd, G2, c2, w2, k1, k2, k3, k4, k5, k6, k7⟩ := hpa.take hbr hwf (by omega)
        have HN := Aside0.mk (And.intro k6 k7)
        have hbA := below_alloc (Below.refl _ wr) (.cells #[.int .i64 t.1, .int .i64 t.2] 160 (0, 0))
        have hA := hpa.wh.below hbA
        have c579 := hA.c.2.2
        have hnv := heap_alloc_new wr (.cells #[.int .i64 t.1, .int .i64 t.2] 160 (0, 0))
        have n0 : (wr.alloc (.cells #[.int .i64 t.1, .int .i64 t.2] 160 (0, 0))).cell? ⟨wr.heap.size, 0, none⟩ = some (.int .i64 t.1) := by rw [cell_of_row _ _ _ _ _ _ hnv]; rfl
        clear hpa hlf hmid ht k6 k7 hA hbA HACC hnv
        go_upto_region 14 with fail
        go_region_held3 (fun w' => w'.cell? ⟨p, 579, none⟩ = some (.map (some m)) ∧ w'.cell? ⟨wr.heap.size, 0, none⟩ = some (.int .i64 t.1)) (first | exact ⟨c579, n0⟩ | exact ⟨k4, k2⟩) (fail)
        go_wp2_with ((with_reducible refine gate_builtin (b := .append) (xs := #[.tmp 53, .tmp 55]) rfl ?_); at_builtin; refine wpList_app_run _ rfl _ _ 69 rfl _ _ rfl rfl k5 ?_)
        have e : (out ++ [t]).length = out.length + 1 := by simp
        exact ⟨⟨i + 1, n, _, Ri, G2, c2, out ++ [t], by simp, by rw [e], by omega, by rw [e]; omega, by rw [e]; exact HN.out.1, by rw [e]; exact HP.out.2.1.trans HN.out.2, HP.out.2.2.take (rising_of HP.out.1.wh.mp law) HT.out hd⟩, by simp [intOf]; omega⟩
      · have hbA := below_alloc (Below.refl _ wr) (.cells #[.int .i64 t.1, .int .i64 t.2] 160 (0, 0))
        have hshort : ∀ x ∈ Ri, x.2.length + 1 ≤ 1099511627776 := fun x hx => by
          obtain ⟨j, hj, e⟩ := List.mem_iff_getElem.1 hx
          have h2 := hmid.rims.few (j := j) (l := x.2) (by rw [List.getElem?_map, List.getElem?_eq_getElem hj, e]; rfl)
          have h3 := HQ.out.1.length_eq
          have h4 := HH.out.len
          have h5 : (ahead nw (acc.take i)).length ≤ acc.length := Nat.le_trans (List.length_filter_le _ _) (by rw [List.length_take]; omega)
          rw [List.length_append] at h2 h3
          omega
        have HPL := Aside0.mk ((hpa.below hbA).place (Nat.le_trans hbr hbA.size) ha0 ha1 h0 h1 hshort)
        have HBA := Aside0.mk hbA
        clear hpa hlf hmid ht hbA HACC hshort
        have hd' : nw < t.2 := by omega
        go_wp2_with (go_at_call 83; (with_reducible refine HPL.out.mono ?_); rintro e w3 ⟨rfl, j, x, v1, g1, g2, g3, g4, g5⟩; have HG := Aside0.mk (And.intro g1 (And.intro g2 (And.intro g3 (And.intro g4 g5)))); clear g1 g2 g3 g4 g5)
        exact ⟨⟨i + 1, n, _, _, G, c, out, by simp, rfl, by omega, by omega, HG.out.2.2.2.1, (HP.out.2.1.trans (Lf.of_below HBA.out hbr _)).trans HG.out.2.2.2.2, HP.out.2.2.place HT.out hd' HG.out.1 HG.out.2.1 HG.out.2.2.1⟩, by simp [intOf]; omega⟩
    · obtain rfl : i = acc.length := by omega
      obtain ⟨z1, z2, z3⟩ := hmid.fin HQ.out.1 HQ.out.2.1
      have HZ := Aside0.mk (And.intro z1 (And.intro z2 z3))
      have CSo := Aside0.mk (sort_s hpa.out (by simp only; omega))
      simp only at CSo
      clear hpa hlf hmid z1 z2 z3
      go_wp2_with (go_at_call 88; (with_reducible refine CSo.out.mono ?_); rintro e w5 ⟨rfl, l5, y1, y2, y3, y4, y5⟩; have HY := Aside0.mk (And.intro y1 (And.intro y2 (And.intro y3 (And.intro y4 y5)))); clear y1 y2 y3 y4 y5)
      obtain ⟨v1, v2, v3, v4⟩ := pass_sorted HH.out h0 h1 HP.out.1 HP.out.2.1 HZ.out HY.out.1 HY.out.2.1 HY.out.2.2.1 HY.out.2.2.2.1 HY.out.2.2.2.2 hbw
      have HV := Aside0.mk (And.intro v2 (And.intro v3 v4))
      have HW := Aside0.mk (v3.bel.size)
      have hDl : (dueL nw L).length ≤ 65536 := Nat.le_trans (List.length_filter_le _ _) HH.out.len
      obtain ⟨D, hD⟩ : ∃ D, dueL nw L = D := ⟨_, rfl⟩
      rw [v1]
      rw [hD] at HV hDl ⊢
      rw [hD] at v1
      have hDl64 : (D.length : Int) ≤ 65536 := by omega
      have V1 := Aside0.mk v1
      have HDE := Aside0.mk hD
      clear v1 v2 v3 v4 HY HZ HP hD
      go_loopw [65, 10] (fun iv kvv W' => KeysRel w5 D iv kvv W') (fun iv _ _ => D.length - (intOf iv).toNat)
      case atStart => exact ⟨0, none, 0, rfl, rfl, Nat.zero_le _, World.ownsRow_nil _ _ _ _, Below.refl _ _⟩
      case round =>
        obtain ⟨q, Gk, ck, rfl, rfl, hq, hkr, hbl⟩ := hrel
        have HKR := Aside0.mk (And.intro hkr hbl)
        by_cases hqlt : q < D.length
        · obtain ⟨t, ht⟩ : ∃ t, D[q]? = some t := ⟨_, List.getElem?_eq_getElem hqlt⟩
          have HT := Aside0.mk ht
          obtain ⟨g, hg⟩ : ∃ g, G = some ⟨g, 0, none⟩ := by
            rcases RowAt.shape HV.out.2.2 with ⟨e1, e2⟩ | ⟨g, c', e1⟩
            · simp only at e2; rw [e2] at hqlt; cases hqlt
            · simp only at e1; injection e1 with e1 _ _; exact ⟨g, e1⟩
          subst hg
          have hrow : RowAt wr b (.slice (some ⟨g, 0, none⟩) D.length c, D) := RowAt.move HV.out.2.2 (fun k hk => hbl.block k (RowAt.lt HV.out.2.2 hk))
          obtain ⟨r0, r1⟩ := RowAt.cells hrow ht
          have hbA := below_alloc (Below.refl _ wr) (.cells #[.int .i64 t.1, .int .i64 t.2] 160 (0, 0))
          have hlen : ((D.take q).map (·.1)).length = q := by rw [List.length_map, List.length_take]; omega
          have hkA : IntsAt (wr.alloc (.cells #[.int .i64 t.1, .int .i64 t.2] 160)) w5.heap.size (.slice Gk q ck) ((D.take q).map (·.1)) := own_move hkr (fun k hk => hbA.block k (by
            obtain ⟨cs, hc⟩ := own_typed hkr k hk
            exact (Array.getElem?_eq_some_iff.1 hc).1))
          obtain ⟨G2, c2, w2, k1, k2, k3⟩ := run_addi hkA (Nat.le_trans hbl.size hbA.size) (by omega) t.1
          rw [hlen] at k1 k2
          have HN := Aside0.mk (And.intro k2 (And.intro k3 (And.intro hbA (And.intro hlen hkA))))
          have hs : (wr.alloc (.cells #[.int .i64 t.1, .int .i64 t.2] 160)).heap.size = wr.heap.size + 1 := by simp
          rw [hs] at k1
          clear hkr hbl ht hrow hbA hkA k2 k3 hs hlen
          go_wp2_with ((with_reducible refine gate_builtin (b := .append) (xs := #[.tmp 69, .tmp 72]) rfl ?_); at_builtin; refine wpList_app_run _ rfl _ _ 34 rfl _ _ rfl rfl k1 ?_)
          refine ⟨⟨q + 1, G2, c2, by simp, rfl, by omega, ?_, keys_below HKR.out.2 HKR.out.1 HN.out.2.2.1 HN.out.2.1⟩, by simp [intOf]; omega⟩
          rw [take_snoc HT.out, List.map_append]
          have : w2.ownsRow w5.heap.size 3 1 (.slice G2 (q + 1) c2) ((D.take q).map (·.1) ++ [t.1]).length (((D.take q).map (·.1) ++ [t.1]).map (Value.int .i64)) := HN.out.1
          show w2.ownsRow w5.heap.size 3 1 (.slice G2 (q + 1) c2) ((D.take q).map (·.1) ++ [t.1]).length _
          rw [List.length_append, HN.out.2.2.2.1]
          rw [List.length_append, HN.out.2.2.2.1] at this
          exact this
        · obtain rfl : q = D.length := by omega
          go_wp2_with fail
          go_ret2
          refine ⟨_, rfl, Ri, HV.out.1.below HKR.out.2, HV.out.2.1.trans (Lf.of_below HKR.out.2 (Nat.le_trans hbw HW.out) _), ?_⟩
          have := HKR.out.1
          rw [List.take_length] at this
          rw [HDE.out]
          refine ints_lower (b' := w5.heap.size) HW.out ?_
          exact this
end Go.Proofs.Ytakmcbakogjeeaa.Wh
