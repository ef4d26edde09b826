/- Sets of spans: Remove; no condition. -/
import Derived.Test.YtmkojmjjlcfohaaRgAdd
set_option linter.unusedVariables false
set_option linter.unusedSimpArgs false
namespace Go.Proofs.Ytmkojmjjlcfohaa.Rg
open Go.RowKit Go.Proofs.YtmkojmjjlcfohaaW.PrintWords Go.Proofs.YtmkojmjjlcfohaaW.PrintLast Go.Proofs.YtmkojmjjlcfohaaW.PrintMore Go.Proofs.Ytmkojmjjlcfohaa.Rw
/-- One span more behind a row of the call's own. -/
theorem wpList_append_span {ops : Array Oper} {o : Oper} {rest : List Oper} {a : Act} {Q' : Exit → Act → World → Prop} {w0 W : World} (base : Nat) (hgd : o.guard = none) (s x : Operand)
    (ho : o.op = .call { callee := .builtin .append, args := #[s, x], argTypes := #[33, 33] }) (v : Value) (M : List Sp) (y : Sp) (hs : a.eval s = v) (nb : Nat) (hnb : nb = W.heap.size) (hx : a.eval x = .slice (some ⟨nb, 0, none⟩) 1 1)
    (n : Nat) (HO : W.ownsRow base 39 2 v n (cells M)) (HB : Below base w0 W) (hbase : base ≤ W.heap.size) (hl : n + 1 ≤ 1099511627776)
    (h : ∀ v1 w1, w1.ownsRow base 39 2 v1 (n + 1) (cells (M ++ [y])) → Below base w0 w1 → wpList Try.prog ops Q' rest (a.put o.dst v1) w1) :
    wpList Try.prog ops Q' (o :: rest) a (W.alloc (.cells #[.int .i64 y.1, .int .i64 y.2] 39)) := by
  subst hnb
  obtain ⟨i0, hi, hz0, hz1, hz2⟩ := info_parts infoS
  have hnew : ∀ j u, [Value.int .i64 y.1, .int .i64 y.2][j]? = some u → (W.alloc (.cells #[.int .i64 y.1, .int .i64 y.2] 39)).cell? ((⟨W.heap.size, 0, none⟩ : Addr).add j) = some u := fun j u hu => by
    rw [add_at, cell_of_row _ _ _ _ _ _ (heap_alloc_new W _), Nat.zero_add]
    simpa using hu
  obtain ⟨v1, w1, hr, h1, h2, _, h3⟩ := run_append_own_at (P := Try.prog) (w := W.alloc (.cells #[.int .i64 y.1, .int .i64 y.2] 39)) base 33 o.type 39 i0 _ 2 16 Try.underlying33 hi hz0 hz1 hz2 rfl (by decide) v n (cells M) (HO.alloc _) ⟨W.heap.size, 0, none⟩ 1 1 [.int .i64 y.1, .int .i64 y.2] rfl hnew
    (fun u hu => by rcases List.mem_cons.1 hu with rfl | hu; rfl; rw [List.mem_singleton.1 hu]; rfl) (by unfold maxLen; omega) (by omega) (by simp; omega)
  have e2 : cells (M ++ [y]) = cells M ++ [.int .i64 y.1, .int .i64 y.2] := by rw [cells_append]; rfl
  refine wpList_plain hgd fun K hK => ?_
  unfold Oper.wp execOp
  simp only [ho, resolve, invoke, builtin, Sem.run_bind, Sem.run_pure, Result.andThen_ok, List.map_toArray, List.map_cons, List.map_nil, hs, hx, hr]
  refine hK _ _ (h v1 w1 (by rw [e2]; exact h1) ?_)
  exact (HB.alloc hbase _).grown h2 (by simp; omega) (fun k hk => (own_typed HO k hk).1)
/-- The answer of Remove, and the spans behind it. -/
def remR (L : List Sp) (f l : Int) : Int × List Sp := if bad f l then (2, L) else if (removeL L f l).length > 65536 then (3, L) else (0, removeL L f l)
/-- Under way: k spans are looked at, M is left of them. -/
def RemRel (w1 : World) (L : List Sp) (f l : Int) (i : Nat) (kv lv : Value) (wr : World) : Prop :=
  ∃ (k : Nat) (M : List Sp), kv = .int .i64 k ∧ i ≤ k ∧ k ≤ L.length ∧ cutL f l (L.drop i) = (M ++ (cutL f l (L.drop k)).1, (cutL f l (L.drop k)).2) ∧ M.length ≤ 2 * (k - i) ∧ wr.ownsRow w1.heap.size 39 2 lv M.length (cells M) ∧ (M = [] → lv = .slice none 0 0) ∧ Below w1.heap.size w1 wr
def RemEnd (w1 : World) (L : List Sp) (f l : Int) (i k : Nat) (M : List Sp) (lv : Value) (wr : World) : Prop :=
  i ≤ k ∧ k ≤ L.length ∧ cutL f l (L.drop i) = (M, L.drop k) ∧ M.length ≤ 2 * (k - i) ∧ wr.ownsRow w1.heap.size 39 2 lv M.length (cells M) ∧ (M = [] → lv = .slice none 0 0) ∧ Below w1.heap.size w1 wr
theorem cut_stop {L : List Sp} {f l : Int} {y : Sp} {k : Nat} (hy : L[k]? = some y) (h : y.1 > l) : cutL f l (L.drop k) = ([], L.drop k) := by
  obtain ⟨hk, he⟩ := List.getElem?_eq_some_iff.1 hy
  rw [List.drop_eq_getElem_cons hk, he]
  unfold cutL
  rw [if_neg (by omega)]
theorem cut_end {L : List Sp} {f l : Int} {k : Nat} (h : L.length ≤ k) : cutL f l (L.drop k) = ([], L.drop k) := by
  rw [List.drop_eq_nil_of_le h]; rfl
theorem cut_go {L : List Sp} {f l : Int} {y : Sp} {k : Nat} (hy : L[k]? = some y) (h : y.1 ≤ l) : cutL f l (L.drop k) = (leftOf f l y ++ (cutL f l (L.drop (k + 1))).1, (cutL f l (L.drop (k + 1))).2) := by
  obtain ⟨hk, he⟩ := List.getElem?_eq_some_iff.1 hy
  rw [List.drop_eq_getElem_cons hk, he]
  conv => lhs; unfold cutL
  rw [if_pos h]
theorem rem_len {w1 wr : World} {L M : List Sp} {f l : Int} {i k : Nat} {lv : Value} (h : RemEnd w1 L f l i k M lv wr) (hi : i = fromL L f) : removeL L f l = L.take i ++ (M ++ L.drop k) ∧ (removeL L f l).length = L.length - (k - i) + M.length := by
  obtain ⟨h1, h2, h3, _⟩ := h
  subst hi
  have e : removeL L f l = L.take (fromL L f) ++ (M ++ L.drop k) := by unfold removeL; rw [h3]
  refine ⟨e, ?_⟩
  rw [e, List.length_append, List.length_append, List.length_take, List.length_drop]
  omega
theorem rem_big {w1 wr : World} {L M : List Sp} {f l : Int} {i k : Nat} {lv : Value} (h : RemEnd w1 L f l i k M lv wr) (hi : i = fromL L f) (hb : ¬ bad f l = true) (hbig : L.length - (k - i) + M.length > 65536) : remR L f l = (3, L) := by
  unfold remR
  rw [if_neg hb, (rem_len h hi).2, if_pos hbig]
theorem rem_small {w1 wr : World} {L M : List Sp} {f l : Int} {i k : Nat} {lv : Value} (h : RemEnd w1 L f l i k M lv wr) (hi : i = fromL L f) (hb : ¬ bad f l = true) (hbig : ¬ L.length - (k - i) + M.length > 65536) : remR L f l = (0, L.take i ++ (M ++ L.drop k)) := by
  unfold remR
  rw [if_neg hb, (rem_len h hi).2, if_neg hbig, (rem_len h hi).1]
theorem rem_ok {L L' : List Sp} {f l c : Int} (ho : Ok L) (h : remR L f l = (c, L')) (hb : ¬ bad f l = true) (hf : L.length ≤ 65536) : Ok L' ∧ L'.length ≤ 65536 := by
  obtain ⟨h0, h1, h2⟩ := not_bad hb
  unfold remR at h
  rw [if_neg hb] at h
  split at h
  · injection h with _ h
    subst h
    exact ⟨ho, hf⟩
  · next hs =>
    injection h with _ h
    subst h
    exact ⟨(remove_ok L ho f l h0 h1 h2).1, by omega⟩
theorem rem_below {w w1 wr : World} {L M : List Sp} {f l : Int} {i k : Nat} {lv : Value} (hb : Below w.heap.size w w1) (he : RemEnd w1 L f l i k M lv wr) : Below w.heap.size w wr := hb.trans (he.2.2.2.2.2.2.mono hb.size)
theorem rem_rep {w w1 wr : World} {base g : Nat} {v : Value} {L M : List Sp} {f l : Int} {i k : Nat} {Al : Option Addr} {ml cl : Nat} (h : SetAt w base g v L) (hbw : base ≤ w.heap.size) (hb : Below w.heap.size w w1) (he : RemEnd w1 L f l i k M (.slice Al ml cl) wr) :
    Calls Try.prog 42 #[v, .int .i64 i, .int .i64 k, .slice Al ml cl] wr fun e w' => ∃ v' N, e = .returned v' ∧ N = (L.take i ++ (M ++ L.drop k)).length ∧
      Rp wr w' base 39 2 v v' N (cells (L.take i ++ (M ++ L.drop k))) := by
  have hb2 := rem_below hb he
  have hs := h.below hb2
  have hfew := h.few
  obtain ⟨h1, h2, h3, h4, h5, h6, h7⟩ := he
  have hml : ml = M.length := by
    rcases h5.2 with ⟨hv, h0⟩ | ⟨g', c, cur, hv, _⟩
    · injection hv with _ hv _
      omega
    · injection hv
  subst hml
  have hlen : (L.take i ++ (M ++ L.drop k)).length = i + M.length + (L.length - k) := by
    rw [List.length_append, List.length_append, List.length_take, List.length_drop]
    omega
  have hce : cells (L.take i ++ (M ++ L.drop k)) = (cells L).take (i * 2) ++ cells M ++ (cells L).drop (k * 2) := by
    rw [cells_append, cells_append, cells_take, cells_drop, List.append_assoc]
  rw [hlen, hce]
  have hgv : v.ownBlock.getD g < w1.heap.size := by
    cases hv : v.ownBlock with
    | none => exact Nat.lt_of_lt_of_le h.lt hb.size
    | some k => exact Nat.lt_of_lt_of_le (h.row_lt k hv) hb.size
  have hsrc : SrcV wr (v.ownBlock.getD g) 2 Al M.length cl (cells M) := by
    refine ⟨cells_length M, cells_one M, ?_⟩
    rcases h5.2 with ⟨hv, h0⟩ | ⟨g', c, cur, hv, hbg, hgg, hnc, hcm, hcs, hx⟩
    · injection hv with hv1 _ hv2
      exact .inl ⟨hv1, h0, hv2⟩
    · injection hv with hv1 _ hv2
      refine .inr ⟨g', 0, cur, _, hv1, by omega, hgg, fun j u hj => ?_⟩
      rw [← hx, List.getElem?_take] at hj
      rw [Nat.zero_add, ← Array.getElem?_toList]
      split at hj
      · exact hj
      · cases hj
  refine (replace_any (g := v.ownBlock.getD g) hs.row (cells_one L) ?_ (fun k hk => by rw [hk]; rfl) hsrc i k h1 h2 (by omega) (fun h0 => ?_)).mono (by rintro e w' ⟨v', rfl, h⟩; exact ⟨_, _, rfl, rfl, h⟩)
  · show base ≤ wr.heap.size
    have := hb2.size
    omega
  · have := h6 (List.eq_nil_of_length_eq_zero h0)
    injection this with ha _ hc
    exact ⟨ha, hc⟩
theorem rem_next {w1 wr : World} {L M M' : List Sp} {f l : Int} {i k : Nat} {y : Sp} {lv : Value} (hik : i ≤ k) (hlt : k < L.length) (hc : cutL f l (L.drop i) = (M ++ (cutL f l (L.drop k)).1, (cutL f l (L.drop k)).2)) (hml : M.length ≤ 2 * (k - i))
    (hy : L[k]? = some y) (h : y.1 ≤ l) (hM : M' = M ++ leftOf f l y) (ho : wr.ownsRow w1.heap.size 39 2 lv M'.length (cells M')) (hn : M' = [] → lv = .slice none 0 0) (hb : Below w1.heap.size w1 wr) : RemRel w1 L f l i (.int .i64 ((k : Int) + 1)) lv wr := by
  have hlo : (leftOf f l y).length ≤ 2 := by
    unfold leftOf
    rw [List.length_append]
    split <;> split <;> simp
  refine ⟨k + 1, M', rfl, by omega, by omega, ?_, ?_, ho, hn, hb⟩
  · rw [hc, cut_go hy h, hM, List.append_assoc]
  · rw [hM, List.length_append]
    omega
theorem left_both {f l : Int} {y : Sp} (h1 : y.1 < f) (h2 : y.2 > l) : leftOf f l y = [(y.1, f - 1), (l + 1, y.2)] := by unfold leftOf; rw [if_pos h1, if_pos h2]; rfl
theorem left_low {f l : Int} {y : Sp} (h1 : y.1 < f) (h2 : ¬ y.2 > l) : leftOf f l y = [(y.1, f - 1)] := by unfold leftOf; rw [if_pos h1, if_neg h2]; rfl
theorem left_high {f l : Int} {y : Sp} (h1 : ¬ y.1 < f) (h2 : y.2 > l) : leftOf f l y = [(l + 1, y.2)] := by unfold leftOf; rw [if_neg h1, if_pos h2]; rfl
theorem left_none {f l : Int} {y : Sp} (h1 : ¬ y.1 < f) (h2 : ¬ y.2 > l) : leftOf f l y = [] := by unfold leftOf; rw [if_neg h1, if_neg h2]; rfl
theorem append_ne {M : List Sp} {a : Sp} {v : Value} : M ++ [a] = [] → v = .slice none 0 0 := fun h => by simp at h
variable {w : World} {base g : Nat} {v : Value} {L : List Sp}
set_option maxHeartbeats 3200000 in
set_option maxRecDepth 100000 in
theorem rem_s (h : SetAt w base g v L) (hbw : base ≤ w.heap.size) (f l : Int) :
    Calls Try.prog 19 #[.pointer (some ⟨g, 0, none⟩), .int .i64 f, .int .i64 l] w fun e w' => ∃ v', e = .returned (.int .i64 (remR L f l).1) ∧ SetAt w' base g v' (remR L f l).2 ∧ Lft w w' base g v v' := by
  have H := Aside0.mk h
  have HW := Aside0.mk (wrong_s h f l)
  have c1 := h.c1
  by_cases hb : bad f l = true
  · have e1 : remR L f l = (2, L) := by unfold remR; rw [if_pos hb]
    rw [e1]
    rw [if_pos hb] at HW
    clear h hb e1
    go_enter Try.func19, Try.ntmps19
    go_wp2_with (go_at_call 40; refine HW.out.mono ?_; rintro e w' ⟨rfl, rfl⟩)
    go_ret
    exact ⟨_, rfl, H.out, Lft.of_below (Below.refl _ _) hbw⟩
  · obtain ⟨hf0, hfl, hl1⟩ := not_bad hb
    rw [if_neg hb] at HW
    have HF := Aside0.mk (from_s h f (by omega) (by omega))
    have HIL := Aside0.mk (fromL_le L f)
    have hfew := h.few
    have HB := Aside0.mk hb
    obtain ⟨i, hi⟩ : ∃ i, i = fromL L f := ⟨_, rfl⟩
    rw [← hi] at HF HIL
    have HI := Aside0.mk hi
    clear h hb hi
    go_enter Try.func19, Try.ntmps19
    go_wp2_with (first
      | (go_at_call 40; refine HW.out.mono ?_; rintro e w' ⟨rfl, rfl⟩)
      | (go_at_call 41; refine HF.out.mono ?_; rintro e w1 ⟨rfl, hb⟩; have HBl := Aside0.mk hb; have d1 := pw_cell_below hb c1; clear hb))
    go_loopw [9, 10] (fun kv lv wr => RemRel w1 L f l i kv lv wr) (fun kv _ _ => L.length - (intOf kv).toNat)
    case atStart => exact ⟨i, [], rfl, Nat.le_refl _, HIL.out, by rw [List.nil_append], by simp, World.ownsRow_nil _ _ _ _, fun _ => rfl, Below.refl _ _⟩
    case round =>
      obtain ⟨k, M, rfl, hik, hkl, hcut, hml, hown, hnil, hbx⟩ := hrel
      have HO := Aside0.mk hown
      have HBX := Aside0.mk hbx
      have HC := Aside0.mk hcut
      have HN := Aside0.mk hnil
      obtain ⟨Al, cl, rfl, _⟩ := row_form hown
      have e1 := pw_cell_below hbx d1
      clear hbx hcut hnil hown
      by_cases hlt : k < L.length
      · obtain ⟨y, hy⟩ : ∃ y, L[k]? = some y := ⟨_, List.getElem?_eq_getElem hlt⟩
        obtain ⟨A, c, rfl, hc, hnc, a2, a3⟩ := row_at H.out.row _ y hy
        have d2 := pw_cell_below HBl.out a2
        have d3 := pw_cell_below HBl.out a3
        have b2 := pw_cell_below HBX.out d2
        have b3 := pw_cell_below HBX.out d3
        have ba := below_alloc (Below.refl wr.heap.size wr) (.cells #[.int .i64 y.1, .int .i64 y.2] 39)
        have e1a := pw_cell_below ba e1
        have b2a := pw_cell_below ba b2
        have b3a := pw_cell_below ba b3
        have hyo := H.out.ok.2 y (List.mem_of_getElem? hy)
        have y0 := hyo.1
        have y1 := hyo.2.1
        have y2 := hyo.2.2
        have HY := Aside0.mk hy
        clear a2 a3 hy hyo ba
        by_cases hgt : y.1 > l
        · have HE := Aside0.mk (show RemEnd w1 L f l i k M (.slice Al M.length cl) wr from ⟨hik, hkl, (by rw [HC.out, cut_stop HY.out hgt, List.append_nil]), hml, HO.out, HN.out, HBX.out⟩)
          by_cases hbig : L.length - (k - i) + M.length > 65536
          · have hb1 : (L.length : Int) - ((k : Int) - (i : Int)) + (M.length : Int) > 65536 := by omega
            have HR := Aside0.mk (rem_big HE.out HI.out HB.out hbig)
            go_wp2_with fail
            go_ret
            rw [HR.out]
            exact ⟨_, rfl, H.out.below (rem_below HBl.out HE.out), Lft.of_below (rem_below HBl.out HE.out) hbw⟩
          · have hb1 : (L.length : Int) - ((k : Int) - (i : Int)) + (M.length : Int) ≤ 65536 := by omega
            have HR := Aside0.mk (rem_small HE.out HI.out HB.out hbig)
            go_wp2_with (go_at_call 42; refine (rem_rep H.out hbw HBl.out HE.out).mono ?_; rintro e w2 ⟨v2, N, rfl, hN, hrp⟩; have HNN := Aside0.mk hN; clear hN; obtain ⟨A2, n2, rfl, _⟩ := row_form hrp.own; obtain ⟨q1, q2⟩ := bl_cells_frozen H.out (rem_below HBl.out HE.out) hrp; have HRP := Aside0.mk hrp; clear hrp)
            go_ret
            rw [HR.out]
            have hrp := HRP.out
            rw [HNN.out] at hrp
            exact ⟨_, rfl, by have h2 := set_row H.out (rem_below HBl.out HE.out) hrp (by have := rem_ok H.out.ok HR.out HB.out hfew; exact this.1) (by have := rem_ok H.out.ok HR.out HB.out hfew; exact this.2) hbw; rw [← HNN.out] at h2; exact h2⟩
        · have hgt' : y.1 ≤ l := by omega
          clear hgt
          by_cases hA : y.1 < f
          · by_cases hZ : y.2 > l
            · have HM := Aside0.mk (show M ++ [(y.1, f - 1)] ++ [(l + 1, y.2)] = M ++ leftOf f l y by rw [left_both hA hZ]; simp)
              go_wp2_with (first | (at_builtin; refine wpList_append_span (w0 := w1) (W := wr.alloc (.cells #[.int .i64 y.1, .int .i64 y.2] 39)) w1.heap.size rfl _ _ rfl (.slice Al M.length cl) M (y.1, f - 1) rfl _ (by simp) rfl _ (HO.out.alloc _) (HBX.out.alloc HBX.out.size _) (by have := HBX.out.size; simp; omega) (by omega) ?_; intro v2 w2 h1 h2; have e2 := pw_cell_below h2 d1; have p2 := pw_cell_below h2 d2; have p3 := pw_cell_below h2 d3; obtain ⟨A2, n2, rfl, _⟩ := row_form h1; have HO2 := Aside0.mk h1; have HB2 := Aside0.mk h2; clear h1 h2) | (at_builtin; refine wpList_append_span (w0 := w1) (W := w2.alloc (.cells #[.int .i64 y.1, .int .i64 y.2] 39)) w1.heap.size rfl _ _ rfl (.slice A2 (M.length + 1) n2) (M ++ [(y.1, f - 1)]) (l + 1, y.2) rfl _ (by simp) rfl _ (HO2.out.alloc _) (HB2.out.alloc HB2.out.size _) (by have := HB2.out.size; simp; omega) (by omega) ?_; intro v3 w3 h1 h2; obtain ⟨A3, n3, rfl, _⟩ := row_form h1; have HO3 := Aside0.mk h1; have HB3 := Aside0.mk h2; clear h1 h2))
              go_roundw
              case rel => exact rem_next hik hlt HC.out hml HY.out hgt' HM.out (by simpa using HO3.out) append_ne HB3.out
              case measure => simp [intOf]; omega
            · have HM := Aside0.mk (show M ++ [(y.1, f - 1)] = M ++ leftOf f l y by rw [left_low hA hZ])
              have hZ' : y.2 ≤ l := by omega
              clear hZ
              go_wp2_with (at_builtin; refine wpList_append_span (w0 := w1) (W := wr.alloc (.cells #[.int .i64 y.1, .int .i64 y.2] 39)) w1.heap.size rfl _ _ rfl (.slice Al M.length cl) M (y.1, f - 1) rfl _ (by simp) rfl _ (HO.out.alloc _) (HBX.out.alloc HBX.out.size _) (by have := HBX.out.size; simp; omega) (by omega) ?_; intro v2 w2 h1 h2; have e2 := pw_cell_below h2 d1; have p2 := pw_cell_below h2 d2; have p3 := pw_cell_below h2 d3; obtain ⟨A2, n2, rfl, _⟩ := row_form h1; have HO2 := Aside0.mk h1; have HB2 := Aside0.mk h2; clear h1 h2)
              go_roundw
              case rel => exact rem_next hik hlt HC.out hml HY.out hgt' HM.out (by simpa using HO2.out.alloc _) append_ne (HB2.out.alloc HB2.out.size _)
              case measure => simp [intOf]; omega
          · by_cases hZ : y.2 > l
            · have HM := Aside0.mk (show M ++ [(l + 1, y.2)] = M ++ leftOf f l y by rw [left_high hA hZ])
              have hA' : f ≤ y.1 := by omega
              clear hA
              go_wp2_with (at_builtin; refine wpList_append_span (w0 := w1) (W := (wr.alloc (.cells #[.int .i64 y.1, .int .i64 y.2] 39)).alloc (.cells #[.int .i64 y.1, .int .i64 y.2] 39)) w1.heap.size rfl _ _ rfl (.slice Al M.length cl) M (l + 1, y.2) rfl _ (by simp) rfl _ ((HO.out.alloc _).alloc _) ((HBX.out.alloc HBX.out.size _).alloc (by have := HBX.out.size; simp; omega) _) (by have := HBX.out.size; simp; omega) (by omega) ?_; intro v3 w3 h1 h2; obtain ⟨A3, n3, rfl, _⟩ := row_form h1; have HO3 := Aside0.mk h1; have HB3 := Aside0.mk h2; clear h1 h2)
              go_roundw
              case rel => exact rem_next hik hlt HC.out hml HY.out hgt' HM.out (by simpa using HO3.out) append_ne HB3.out
              case measure => simp [intOf]; omega
            · have HM := Aside0.mk (show M = M ++ leftOf f l y by rw [left_none hA hZ, List.append_nil])
              have hA' : f ≤ y.1 := by omega
              have hZ' : y.2 ≤ l := by omega
              clear hA hZ
              go_wp2_with fail
              go_roundw
              case rel => exact rem_next hik hlt HC.out hml HY.out hgt' HM.out ((HO.out.alloc _).alloc _) HN.out ((HBX.out.alloc HBX.out.size _).alloc (by have := HBX.out.size; simp; omega) _)
              case measure => simp [intOf]; omega
      · have hkge : L.length ≤ k := by omega
        obtain ⟨A, c, rfl, hc, hnc, _⟩ := row_form H.out.row
        have HE := Aside0.mk (show RemEnd w1 L f l i k M (.slice Al M.length cl) wr from ⟨hik, hkl, (by rw [HC.out, cut_end hkge, List.append_nil]), hml, HO.out, HN.out, HBX.out⟩)
        by_cases hbig : L.length - (k - i) + M.length > 65536
        · have hb1 : (L.length : Int) - ((k : Int) - (i : Int)) + (M.length : Int) > 65536 := by omega
          have HR := Aside0.mk (rem_big HE.out HI.out HB.out hbig)
          go_wp2_with fail
          go_ret
          rw [HR.out]
          exact ⟨_, rfl, H.out.below (rem_below HBl.out HE.out), Lft.of_below (rem_below HBl.out HE.out) hbw⟩
        · have hb1 : (L.length : Int) - ((k : Int) - (i : Int)) + (M.length : Int) ≤ 65536 := by omega
          have HR := Aside0.mk (rem_small HE.out HI.out HB.out hbig)
          go_wp2_with (go_at_call 42; refine (rem_rep H.out hbw HBl.out HE.out).mono ?_; rintro e w2 ⟨v2, N, rfl, hN, hrp⟩; have HNN := Aside0.mk hN; clear hN; obtain ⟨A2, n2, rfl, _⟩ := row_form hrp.own; obtain ⟨q1, q2⟩ := bl_cells_frozen H.out (rem_below HBl.out HE.out) hrp; have HRP := Aside0.mk hrp; clear hrp)
          go_ret
          rw [HR.out]
          have hrp := HRP.out
          rw [HNN.out] at hrp
          exact ⟨_, rfl, by have h2 := set_row H.out (rem_below HBl.out HE.out) hrp (by have := rem_ok H.out.ok HR.out HB.out hfew; exact this.1) (by have := rem_ok H.out.ok HR.out HB.out hfew; exact this.2) hbw; rw [← HNN.out] at h2; exact h2⟩
end Go.Proofs.Ytmkojmjjlcfohaa.Rg
