/- Parameters (layer 3): read; no condition. -/
import Derived.Test.YtcidijmdndcdlaaDoorPr10
set_option linter.unusedVariables false
set_option linter.unusedSimpArgs false
namespace Go.Proofs.YtcidijmdndcdlaaDoor.Pr
open Go Go.RowKit Go.Maps Go.Proofs.YtcidijmdndcdlaaDoor.Pm Go.Proofs.YtcidijmdndcdlaaDoor.Rm Go.Proofs.YtcidijmdndcdlaaDoor.OctM
open Go.Proofs.YtcidijmdndcdlaaDoorW.PrintWords Go.Proofs.YtcidijmdndcdlaaDoorW.PrintLast Go.Proofs.YtcidijmdndcdlaaDoorW.PrintMore
variable {W W' W0 : World} {g b B m n : Nat} {p : Pm} {vo vf va : Value} {kv : KV} {came : List Int}
/-- The map of what has come. -/
structure Mb (w : World) (m n : Nat) (kv : KV) (came : List Int) : Prop where
  mp : w.ownsMap Tryd.prog 3 rawElem m n (mapD kv)
  keys : ∀ id, getL kv id = if came.contains id then some (.bool true) else none
noncomputable def updB (W : World) (m : Nat) (k : Int) : World := match (Instr.mapUpdate 84 (.map (some m)) (.int .i64 k) (.bool true)).run Tryd.prog W with | .ok _ w' => w' | _ => W
theorem Mb.below {w w' : World} (h : Mb w m n kv came) (hb : Below w.heap.size w w') : Mb w' m n kv came := ⟨h.mp.kept (grown_of_below hb none) (by simp), h.keys⟩
theorem Mb.made (w : World) : Mb (w.alloc (.map #[] 0)) w.heap.size 0 [] [] := ⟨Rm.made w _ _, fun id => rfl⟩
theorem Mb.look {w : World} (h : Mb w m n kv came) {k : Int} (hk : (Lit.int .i64 k).wf = true) : (Instr.lookup 84 (.map (some m)) (.int .i64 k) false).run Tryd.prog w = .ok (.bool (came.contains k)) w := by
  have := Rm.look h.mp law Tryd.underlying84 (z := .bool false) (by kernel_rfl) (keyInt Tryd.underlying3 hk)
  rw [h.keys k] at this
  rw [this]
  cases came.contains k <;> rfl
theorem Mb.put {w : World} (h : Mb w m n kv came) (hn : n < maxLen) {k : Int} (hk : (Lit.int .i64 k).wf = true) :
    (Instr.mapUpdate 84 (.map (some m)) (.int .i64 k) (.bool true)).run Tryd.prog w = .ok () (updB w m k) ∧ Mb (updB w m k) m (n + 1) (putL kv k (.bool true)) (came ++ [k]) ∧ ButM w (updB w m k) m := by
  obtain ⟨w', h1, h2, h3⟩ := Rm.store h.mp law Tryd.underlying84 hn (keyInt Tryd.underlying3 hk) (.bool true)
  have e : updB w m k = w' := by unfold updB; rw [h1]
  rw [e]
  refine ⟨h1, ⟨h2, fun id => ?_⟩, (ButM.of_below (Below.refl _ w)).turned h3⟩
  by_cases hi : id = k
  · subst hi
    rw [getL_put_same]; simp
  · rw [getL_put_other _ _ hi, h.keys id]
    have : (came ++ [k]).contains id = came.contains id := by simp [hi]
    rw [this]
theorem Mb.butM {w w' : World} (h : Mb w m n kv came) (hx : ButM w w' g) (hne : m ≠ g) : Mb w' m n kv came := by
  obtain ⟨es, clock, hb, hr⟩ := h.mp
  exact ⟨⟨es, clock, (hx.block m (Array.getElem?_eq_some_iff.1 hb).1 hne).trans hb, hr⟩, h.keys⟩
/-- Under way. -/
structure RdW (W0 W : World) (g m n : Nat) (kv : KV) (came : List Int) (p : Pm) (vo vf va : Value) : Prop where
  bel : Below W0.heap.size W0 W
  st : RdSt W0.heap.size W g p vo vf va
  mb : Mb W m n kv came
  gl : GL W
  lm : W0.heap.size ≤ m
  ne : m ≠ g
theorem RdW.below (h : RdW W0 W g m n kv came p vo vf va) (hb : Below W.heap.size W W') : RdW W0 W' g m n kv came p vo vf va :=
  ⟨Bl.then h.bel hb, h.st.below hb, h.mb.below hb, gl_same h.gl (Sames.of_below hb), h.lm, h.ne⟩
theorem RdW.put (h : RdW W0 W g m n kv came p vo vf va) (hn : n < maxLen) {k : Int} (hk : (Lit.int .i64 k).wf = true) :
    (Instr.mapUpdate 84 (.map (some m)) (.int .i64 k) (.bool true)).run Tryd.prog W = .ok () (updB W m k) ∧ RdW W0 (updB W m k) g m (n + 1) (putL kv k (.bool true)) (came ++ [k]) p vo vf va := by
  obtain ⟨h1, h2, h3⟩ := h.mb.put hn hk
  have hs := h3.sames h.mb.mp
  have hr : ∀ v xs, Ow W W0.heap.size g v xs → Ow (updB W m k) W0.heap.size g v xs := fun v xs hv => by
    refine Kd.R_mono (Kd.R_move (Kd.R_bound hv) (fun k' hk' => ?_)) (fun _ hk' => hk'.1)
    obtain ⟨_, _, hlt, q, _, cells, hc⟩ := hk'
    exact h3.block k' hlt (fun e => map_ne_cells h.mb.mp hc e.symm)
  exact ⟨h1, ⟨h3.bel h.bel h.lm h.bel.size, ⟨(h3.block g h.st.pm.lt h.ne.symm).trans h.st.pm, h.st.sz, hr _ _ h.st.so, hr _ _ h.st.sf, hr _ _ h.st.sa, h.st.ap, h.st.gB, h.st.B0⟩, h2, gl_same h.gl hs, h.lm, h.ne⟩⟩
theorem RdW.taken {p' : Pm} {vo' vf' va' : Value} (h : RdW W0 W g m n kv came p vo vf va) (hx : ButM W W' g) (hs : RdSt W0.heap.size W' g p' vo' vf' va') : RdW W0 W' g m n kv came p' vo' vf' va' :=
  ⟨hx.bel h.bel h.st.gB h.bel.size, hs, h.mb.butM hx h.ne, gl_butM h.gl hx h.st.g0, h.lm, h.ne⟩
theorem wf_id {id : Int} (h0 : 0 ≤ id) (h1 : id ≤ top) : (Lit.int .i64 id).wf = true := by
  have m0 : IntKind.i64.min = -9223372036854775808 := by decide +kernel
  have m1 : IntKind.i64.max = 9223372036854775807 := by decide +kernel
  unfold top at h1
  simp [Lit.wf]; omega
theorem Sl.below' {v : Value} {xs : List Int} (h : Sl W0 v xs) (hb : Below W0.heap.size W0 W) : Sl W v xs := h.below hb
abbrev lenV : Value → Nat | .slice _ n _ => n | _ => 0
set_option maxRecDepth 100000 in
set_option maxHeartbeats 3200000 in
theorem read_s (h : RdSt W0.heap.size W g p vo vf va) (hW : Below W0.heap.size W0 W) (hG : GL W) {v : Value} {xs : List Int} (hv : Sl W0 v xs) (hb : Bytes xs) (hl : xs.length ≤ big) (server : Bool) :
    Calls Tryd.prog 22 #[.pointer (some ⟨g, 0, none⟩), v, .bool server] W fun e w' => Below W0.heap.size W0 w' ∧ ∃ code q, Pm.read varF server (xs.length + 1) xs [] p = (code, q) ∧
      ((code = 0 ∧ e = .returned .nilIface ∧ ∃ vo' vf' va', RdSt W0.heap.size w' g q vo' vf' va') ∨ ((code = 10 ∨ code = 11 ∨ code = 13) ∧ e = .returned (errV code))) := by
  have hmm := @run_makeMap Tryd.prog
  have hne : ∀ (n : Int) (W : World), (binOp .neq 62 (errV n) .nilIface).run Tryd.prog W = .ok (.bool true) W := fun n W => by kernel_rfl
  have hnn : ∀ (W : World), (binOp .neq 62 .nilIface .nilIface).run Tryd.prog W = .ok (.bool false) W := fun W => by kernel_rfl
  have H0 : Aside0 (RdW W0 (W.alloc (.map #[] 0)) g W.heap.size 0 [] [] p vo vf va) := ⟨⟨Bl.then hW (Bl.alloc (Below.refl _ W) _), h.below (Bl.alloc (Below.refl _ W) _), Mb.made W, gl_same hG (Sames.of_below (Bl.alloc (Below.refl _ W) _)), hW.size, by have := h.pm.lt; omega⟩⟩
  obtain ⟨R, hR⟩ : ∃ R, Pm.read varF server (xs.length + 1) xs [] p = R := ⟨_, rfl⟩
  rw [hR]
  have HR := Aside0.mk hR
  have HV := Aside0.mk hv
  have HBY := Aside0.mk hb
  have HL := Aside0.mk hl
  clear h hW hG hv hb hl hR
  go_enter Tryd.func22, Tryd.ntmps22
  go_wp2_with fail
  obtain ⟨m, hm⟩ : ∃ m, W.heap.size = m := ⟨_, rfl⟩
  rw [hm] at H0
  simp only [hm]
  clear hm
  go_loopw [1] (fun vb W' => ∃ (bs came : List Int) (p : Pm) (vo vf va : Value) (n : Nat) (kv : KV), RdW W0 W' g m n kv came p vo vf va ∧ Sl W0 vb bs ∧ Bytes bs ∧ bs.length + n ≤ xs.length ∧ Pm.read varF server (bs.length + 1) bs came p = R) (fun vb _ => lenV vb)
  case atStart => exact ⟨xs, [], p, vo, vf, va, 0, [], H0.out, HV.out, HBY.out, by omega, HR.out⟩
  case round =>
    obtain ⟨bs, came, p, vo, vf, va, n, kv, hw, hsl, hby, hle, hrd⟩ := hrel
    obtain ⟨A, c, rfl, hc, hC⟩ := hsl
    have HW := Aside0.mk hw
    have HS : Aside0 (Sl W0 (.slice A bs.length c) bs) := ⟨A, c, rfl, hc, hC⟩
    have HY := Aside0.mk hby
    have HE := Aside0.mk hle
    have HD := Aside0.mk hrd
    clear hw hc hC hby hle hrd H0 HV HBY HR
    by_cases hb0 : bs = []
    · subst hb0
      have hl15 := HW.out.mb.look (k := 15) (by decide)
      have hl0 := HW.out.mb.look (k := 0) (by decide)
      have hd := HD.out
      rw [show ([] : List Int).length + 1 = 0 + 1 from rfl, Pm.read, if_pos rfl] at hd
      obtain ⟨c15, h15⟩ : ∃ c, came.contains 15 = c := ⟨_, rfl⟩
      obtain ⟨c0, h0⟩ : ∃ c, came.contains 0 = c := ⟨_, rfl⟩
      rw [h15] at hl15 hd
      rw [h0] at hl0 hd
      have HDD := Aside0.mk hd
      clear h15 h0 hd HD
      cases c15 with
      | false =>
        go_wp2_with fail
        go_ret
        exact ⟨HW.out.bel, 11, p, HDD.out.symm.trans (by simp), .inr ⟨.inr (.inl rfl), rfl⟩⟩
      | true =>
        cases server with
        | false =>
          go_wp2_with fail
          go_ret
          exact ⟨HW.out.bel, 0, p, HDD.out.symm.trans (by simp), .inl ⟨rfl, rfl, vo, vf, va, HW.out.st⟩⟩
        | true =>
          cases c0 with
          | false =>
            go_wp2_with fail
            go_ret
            exact ⟨HW.out.bel, 11, p, HDD.out.symm.trans (by simp), .inr ⟨.inr (.inl rfl), rfl⟩⟩
          | true =>
            go_wp2_with fail
            go_ret
            exact ⟨HW.out.bel, 0, p, HDD.out.symm.trans (by simp), .inl ⟨rfl, rfl, vo, vf, va, HW.out.st⟩⟩
    · have hpos : (bs.length : Int) > 0 := by have := List.length_pos_iff.2 hb0; omega
      have hd := HD.out
      rw [Pm.read, if_neg hb0] at hd
      have NX := Aside0.mk (next_s HW.out.gl (HS.out.below' HW.out.bel) HY.out (by have := HL.out; have := HE.out; omega))
      cases hnx : Pm.next varF bs with
      | none =>
        rw [hnx] at hd NX
        have HDD := Aside0.mk hd
        have NN : Aside0 (Calls Tryd.prog 40 #[.slice A bs.length c] wr fun e w' => e = .returned (.tuple #[.int .i64 0, .slice none 0 0, .slice none 0 0, errV 10]) ∧ Below wr.heap.size wr w') := ⟨NX.out.mono (by
          rintro e w' ⟨hb, ⟨_, rfl⟩ | ⟨_, _, _, _, _, h, _⟩⟩
          · exact ⟨rfl, hb⟩
          · cases h)⟩
        clear NX hd HD hb0
        go_wp2_with (go_at_call 40; (with_reducible refine NN.out.mono ?_); rintro e w1 ⟨rfl, hb1⟩; have HW1 := Aside0.mk (HW.out.below hb1); clear hb1)
        go_ret
        exact ⟨HW1.out.bel, 10, p, HDD.out.symm, .inr ⟨.inl rfl, rfl⟩⟩
      | some trip =>
        obtain ⟨id, val, rest⟩ := trip
        rw [hnx] at hd NX
        obtain ⟨s1, s2, s3, s4, s5, s6⟩ := next_short codec HY.out hnx
        have NN : Aside0 (Calls Tryd.prog 40 #[.slice A bs.length c] wr fun e w' => ∃ v1 A2 c2, e = .returned (.tuple #[.int .i64 id, v1, .slice A2 rest.length c2, .nilIface]) ∧ Below wr.heap.size wr w' ∧ Sl W0 v1 val ∧ Sl W0 (.slice A2 rest.length c2) rest) := ⟨NX.out.mono (by
          rintro e w' ⟨hb, ⟨h, _⟩ | ⟨id', val', rest', v1, v2, h, rfl, hs⟩⟩
          · cases h
          · injection h with h
            injection h with e1 h
            injection h with e2 e3
            subst e1; subst e2; subst e3
            obtain ⟨a, A2, c2, rfl, hc2, hC2⟩ := hs W0 HS.out
            exact ⟨v1, A2, c2, rfl, hb, a, A2, c2, rfl, hc2, hC2⟩)⟩
        simp only at hd
        have hwf := wf_id s4 s5
        obtain ⟨ci, hci⟩ : ∃ c, came.contains id = c := ⟨_, rfl⟩
        have HLK : Aside0 (∀ w', Below wr.heap.size wr w' → (Instr.lookup 84 (.map (some m)) (.int .i64 id) false).run Tryd.prog w' = .ok (.bool ci) w') := ⟨fun w' hb => by rw [← hci]; exact (HW.out.below hb).mb.look hwf⟩
        rw [hci] at hd
        clear hci
        cases ci with
        | true =>
          have HDD := Aside0.mk hd
          clear NX hd HD hb0 hwf s1 s2 s3 s4 s5 s6
          go_wp2_with (go_at_call 40; (with_reducible refine NN.out.mono ?_); rintro e w1 ⟨v1, A2, c2, rfl, hb1, _, _⟩; have HW1 := Aside0.mk (HW.out.below hb1); have hlk := HLK.out _ hb1; clear hb1)
          go_ret
          exact ⟨HW1.out.bel, 13, p, HDD.out.symm.trans (by simp), .inr ⟨.inr (.inr rfl), rfl⟩⟩
        | false =>
          have HN : Aside0 (n < maxLen) := ⟨by have h1 := HL.out; have h2 := HE.out; unfold maxLen; unfold big at h1; omega⟩
          have TK : Aside0 (∀ w' v1, Below wr.heap.size wr w' → Sl W0 v1 val → Calls Tryd.prog 41 #[.pointer (some ⟨g, 0, none⟩), .int .i64 id, v1, .bool server] (updB w' m id) (TakePost (updB w' m id) W0.heap.size g p server id val)) := ⟨fun w' v1 hb hs => by
            have hp := ((HW.out.below hb).put HN.out hwf).2
            exact take_s hp.gl hp.st hp.bel.size id hwf (hs.below' hp.bel) s3 (by have := HL.out; have := HE.out; omega) server⟩
          have HS1 := Aside0.mk s1
          have HS2 := Aside0.mk s2
          have HWF := Aside0.mk hwf
          obtain ⟨ok, hok⟩ : ∃ ok, okE varF server (id, val) = ok := ⟨_, rfl⟩
          rw [hok] at hd
          unfold TakePost at TK
          rw [hok] at TK
          clear hok
          cases ok with
          | false =>
            have HDD := Aside0.mk hd
            clear NX hd HD hb0 hwf s1 s2 s3 s4 s5 s6
            go_wp2_with (first
              | (go_at_call 40; (with_reducible refine NN.out.mono ?_); rintro e w1 ⟨v1, A2, c2, rfl, hb1, hs1, hs2⟩; have HT := Aside0.mk (TK.out _ _ hb1 hs1); have hlk := HLK.out _ hb1; have HW1 := Aside0.mk ((HW.out.below hb1).put HN.out HWF.out); have hup := HW1.out.1; clear hb1 hs1 hs2)
              | (go_at_call 41; (with_reducible refine HT.out.mono ?_); rintro e w3 ⟨hx, ⟨h, _⟩ | ⟨_, rfl⟩⟩ <;> first | (exact absurd h (by decide)) | (have HX := Aside0.mk hx; clear hx)))
            go_ret
            exact ⟨HX.out.bel HW1.out.2.bel HW1.out.2.st.gB HW1.out.2.bel.size, 11, p, HDD.out.symm.trans (by simp), .inr ⟨.inr (.inl rfl), rfl⟩⟩
          | true =>
            have hd2 : Pm.read varF server (rest.length + 1) rest (came ++ [id]) (Pm.upd varF p (id, val)) = R := by
              rw [read_fuel codec server (rest.length + 1) bs.length rest _ _ s2 (by omega) s1]
              simpa using hd
            have HDD := Aside0.mk hd2
            clear NX hd hd2 HD hb0 hwf s1 s2 s3 s4 s5 s6
            go_wp2_with (first
              | (go_at_call 40; (with_reducible refine NN.out.mono ?_); rintro e w1 ⟨v1, A2, c2, rfl, hb1, hs1, hs2⟩; have HT := Aside0.mk (TK.out _ _ hb1 hs1); have hlk := HLK.out _ hb1; have HW1 := Aside0.mk ((HW.out.below hb1).put HN.out HWF.out); have hup := HW1.out.1; have HS3 := Aside0.mk hs2; clear hb1 hs1 hs2)
              | (go_at_call 41; (with_reducible refine HT.out.mono ?_); rintro e w3 ⟨hx, ⟨_, rfl, hst⟩ | ⟨h, _⟩⟩ <;> first | (exact absurd h (by decide)) | (have HX := Aside0.mk (And.intro hx hst); clear hx hst)))
            go_roundw
            case rel =>
              obtain ⟨hx, vo', vf', va', hst⟩ := And.intro HX.out.1 HX.out.2
              first
                | exact ⟨rest, came ++ [id], _, vo', vf', va', n + 1, _, HW1.out.2.taken hx hst, HS3.out, HS2.out, by have := HS1.out; have := HE.out; omega, HDD.out⟩
                | (repeat apply Exists.intro
                   exact ⟨⟨rest, came ++ [id], _, vo', vf', va', n + 1, _, HW1.out.2.taken hx hst, HS3.out, HS2.out, by have := HS1.out; have := HE.out; omega, HDD.out⟩, rfl⟩)
            case measure => simpa [lenV] using HS1.out
end Go.Proofs.YtcidijmdndcdlaaDoor.Pr
