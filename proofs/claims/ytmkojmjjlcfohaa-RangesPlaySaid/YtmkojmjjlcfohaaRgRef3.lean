/- The document's set (layer 5): Add and Remove; no condition. -/
import Derived.Test.YtmkojmjjlcfohaaRgRef2
set_option linter.unusedVariables false
set_option linter.unusedSimpArgs false
namespace Go.Proofs.Ytmkojmjjlcfohaa.Rg
open Go.RowKit Go.Shelf Go.Proofs.YtmkojmjjlcfohaaW.PrintWords Go.Proofs.YtmkojmjjlcfohaaW.PrintLast Go.Proofs.YtmkojmjjlcfohaaW.PrintMore Go.Proofs.Ytmkojmjjlcfohaa.Rw
attribute [local go_sem] Oper.semAt_some
variable {w : World} {base g : Nat} {v : Value} {L : List Sp}
/-- What a change of the document's set leaves of all else. -/
structure LftR (w w' : World) (base g : Nat) (v v' : Value) : Prop where
  below : Below base w w'
  kept : ∀ k, k < w.heap.size → k ≠ g → w'.heap[k]? = w.heap[k]?
  at_ : ∀ k, v'.ownBlock = some k → v.ownBlock = some k ∨ w.heap.size ≤ k
theorem LftR.of_below {w' : World} (h : Below w.heap.size w w') (hb : base ≤ w.heap.size) : LftR w w' base g v v := ⟨h.mono hb, fun k hk _ => h.block k hk, fun k h => .inl h⟩
theorem ref_set {W : World} {v' : Value} {L' : List Sp} (h : RefAt w base g v L) (hW : Below w.heap.size w W) (hr : W.ownsRow w.heap.size 39 2 v' L'.length (cells L')) (ho : Ok L') (hf : L'.length ≤ 65536) (hb : base ≤ w.heap.size) :
    RefAt (W.setCell ⟨g, 0, none⟩ v') base g v' L' ∧ LftR w (W.setCell ⟨g, 0, none⟩ v') base g v v' := by
  have hbx : Boxed W g 68 v := (hW.block g h.lt).trans h.blk
  have hlt := h.lt
  refine ⟨⟨h.hg, hbx.set v', ⟨hr.1, ?_⟩, ho, hf⟩, (hW.mono hb).setCell (p := ⟨g, 0, none⟩) h.hg _, fun k hk hne => (Below.heap_setCell W ⟨g, 0, none⟩ v' k hne).trans (hW.block k hk), fun k hk => .inr (own_typed hr k hk).1⟩
  rcases hr.2 with h0 | ⟨g', c, cur, rfl, hb', hgg, r⟩
  · exact .inl h0
  · exact .inr ⟨g', c, cur, rfl, by omega, (Below.heap_setCell W ⟨g, 0, none⟩ _ g' (by simp only; omega)).trans hgg, r⟩
theorem rwrong_s (w : World) (f l : Int) : Calls Try.prog 50 #[.int .i64 f, .int .i64 l] w fun e w' => e = .returned (.bool (bad f l)) ∧ w = w' := by
  obtain ⟨p, hp⟩ : ∃ p, decide (f < 0) = p := ⟨_, rfl⟩
  obtain ⟨q, hq⟩ : ∃ q, decide (l > 4611686018427387903) = q := ⟨_, rfl⟩
  obtain ⟨r, hr⟩ : ∃ r, decide (f > l) = r := ⟨_, rfl⟩
  have e : bad f l = (p || q || r) := by unfold bad; rw [hp, hq, hr]
  rw [e]
  clear e
  cases p <;> cases q <;> cases r <;> (go_enter Try.func50, Try.ntmps50; go_wp2; go_ret; exact ⟨rfl, rfl⟩)
theorem rwithout_s {A : Option Addr} {c : Nat} (hr : w.ownsRow base 39 2 (.slice A L.length c) L.length (cells L)) (hl : L.length ≤ 1000000) (f l : Int) (hf : 0 ≤ f) (hf1 : f ≤ 4611686018427387903) (hl0 : 0 ≤ l) (hl1 : l ≤ 4611686018427387903) :
    Calls Try.prog 51 #[.slice A L.length c, .int .i64 f, .int .i64 l] w fun e w' => ∃ A' c', e = .returned (.slice A' (withoutL L f l).length c') ∧ w'.ownsRow w.heap.size 39 2 (.slice A' (withoutL L f l).length c') (withoutL L f l).length (cells (withoutL L f l)) ∧ Below w.heap.size w w' := by
  obtain ⟨A0, c0, hv, _, hn, _⟩ := row_form hr
  injection hv with hv1 _ hv2
  subst hv1; subst hv2
  have h := QRg.caravelref05_without.calls (2 * L.length + 1) A c (L.map toS) f l ((withoutL L f l).map toS) w (read_S hr) (by rw [List.length_map]; exact hn) (without_f L f l hf hf1 hl0 hl1 hl)
  rw [List.length_map] at h
  refine h.mono ?_
  rintro e w' ⟨v0, rfl, hR, hb⟩
  have ho := own_S hR
  obtain ⟨A', c', rfl, _⟩ := row_form ho
  exact ⟨A', c', rfl, ho, hb⟩
theorem own_mono {b' : Nat} {n e z : Nat} {xs : List Value} (h : w.ownsRow b' e z v n xs) (hb : base ≤ b') : w.ownsRow base e z v n xs := by
  refine ⟨h.1, ?_⟩
  rcases h.2 with h0 | ⟨g', c, cur, rfl, hb', hgg, r⟩
  · exact .inl h0
  · exact .inr ⟨g', c, cur, rfl, Nat.le_trans hb hb', hgg, r⟩
theorem rjoined_s {A : Option Addr} {n c : Nat} (hr : w.ownsRow base 39 2 (.slice A n c) n (cells L)) (hn : n = L.length) (hl : L.length ≤ 1000000) (hb : ∀ x ∈ L, x.2 ≤ 4611686018427387903 ∧ -1 ≤ x.2) :
    Calls Try.prog 52 #[.slice A n c] w fun e w' => ∃ A' c', e = .returned (.slice A' (joinL L).length c') ∧ w'.ownsRow w.heap.size 39 2 (.slice A' (joinL L).length c') (joinL L).length (cells (joinL L)) ∧ Below w.heap.size w w' := by
  subst hn
  obtain ⟨A0, c0, hv, _, hn, _⟩ := row_form hr
  injection hv with hv1 _ hv2
  subst hv1; subst hv2
  have h := QRg.caravelref05_joined.calls (L.length + 1) A c (L.map toS) ((joinL L).map toS) w (read_S hr) (by rw [List.length_map]; exact hn) (joined_f L hb hl)
  rw [List.length_map] at h
  refine h.mono ?_
  rintro e w' ⟨v0, rfl, hR, hb⟩
  have ho := own_S hR
  obtain ⟨A', c', rfl, _⟩ := row_form ho
  exact ⟨A', c', rfl, ho, hb⟩
set_option maxHeartbeats 1600000 in
theorem rrem_s (h : RefAt w base g v L) (hbw : base ≤ w.heap.size) (f l : Int) :
    Calls Try.prog 31 #[.pointer (some ⟨g, 0, none⟩), .int .i64 f, .int .i64 l] w fun e w' => ∃ v', e = .returned (.int .i64 (remR L f l).1) ∧ RefAt w' base g v' (remR L f l).2 ∧ LftR w w' base g v v' := by
  obtain ⟨A, c, rfl, hc, hnc, _⟩ := row_form h.row
  have H := Aside0.mk h
  have c0 := h.c0
  have HW := Aside0.mk (rwrong_s w f l)
  by_cases hb : bad f l = true
  · have e1 : remR L f l = (2, L) := by unfold remR; rw [if_pos hb]
    rw [e1]
    rw [hb] at HW
    clear h hb e1
    go_enter Try.func31, Try.ntmps31
    go_wp2_with (go_at_call 50; refine HW.out.mono ?_; rintro e w' ⟨rfl, rfl⟩)
    go_ret
    exact ⟨_, rfl, H.out, LftR.of_below (Below.refl _ _) hbw⟩
  · obtain ⟨hf0, hfl, hl1⟩ := not_bad hb
    have HR := Aside0.mk (show remR L f l = if (withoutL L f l).length > 65536 then (3, L) else (0, withoutL L f l) by unfold remR; rw [if_neg hb, remove_is L h.ok])
    have HOK := Aside0.mk (without_ok L f l h.ok hf0 hfl hl1).1
    have HWO := Aside0.mk (rwithout_s (w := w) h.row (by have := h.few; omega) f l hf0 (by omega) (by omega) hl1)
    rw [show bad f l = false by simpa using hb] at HW
    obtain ⟨M, hM⟩ : ∃ M, withoutL L f l = M := ⟨_, rfl⟩
    rw [hM] at HR HOK HWO
    clear hM h hb
    by_cases hbig : M.length > 65536
    · have hb1 : (M.length : Int) > 65536 := by omega
      have hb2 : remR L f l = (3, L) := by rw [HR.out, if_pos hbig]
      rw [hb2]
      clear hb2
      go_enter Try.func31, Try.ntmps31
      go_wp2_with (first
        | (go_at_call 50; refine HW.out.mono ?_; rintro e w' ⟨rfl, rfl⟩)
        | (go_at_call 51; refine HWO.out.mono ?_; rintro e w1 ⟨A1, c1, rfl, ho, hbl⟩; have HO := Aside0.mk ho; have HBL := Aside0.mk hbl; clear ho hbl))
      go_ret
      exact ⟨_, rfl, H.out.below HBL.out, LftR.of_below HBL.out hbw⟩
    · have hb1 : (M.length : Int) ≤ 65536 := by omega
      have hb2 : remR L f l = (0, M) := by rw [HR.out, if_neg hbig]
      rw [hb2]
      clear hb2
      go_enter Try.func31, Try.ntmps31
      go_wp2_with (first
        | (go_at_call 50; refine HW.out.mono ?_; rintro e w' ⟨rfl, rfl⟩)
        | (go_at_call 51; refine HWO.out.mono ?_; rintro e w1 ⟨A1, c1, rfl, ho, hbl⟩; have HO := Aside0.mk ho; have HBL := Aside0.mk hbl; have e0 := (H.out.below hbl).c0; have e1 := (H.out.below hbl).fz; clear ho hbl))
      go_ret
      exact ⟨_, rfl, ref_set H.out HBL.out HO.out HOK.out (by omega) hbw⟩
/-- Under way in Add: k of the spans M are looked at. -/
def RAdd (w1 : World) (M : List Sp) (f l : Int) (lv pv kv : Value) (wr : World) : Prop :=
  ∃ (k : Nat) (N : List Sp) (put : Bool), k ≤ M.length ∧ kv = .int .i64 k ∧ pv = .bool put ∧ N.length ≤ k + (if put then 1 else 0) ∧ insL f l M = N ++ (if put then M.drop k else insL f l (M.drop k)) ∧ wr.ownsRow w1.heap.size 39 2 lv N.length (cells N) ∧ Below w1.heap.size w1 wr
theorem drop_at {M : List Sp} {k : Nat} {y : Sp} (h : M[k]? = some y) : M.drop k = y :: M.drop (k + 1) := by
  obtain ⟨hk, he⟩ := List.getElem?_eq_some_iff.1 h
  rw [List.drop_eq_getElem_cons hk, he]
theorem insL_len : ∀ (M : List Sp) (f l : Int), (insL f l M).length = M.length + 1
  | [], _, _ => rfl
  | y :: r, f, l => by
    unfold insL
    split
    · simp
    · rw [List.length_cons, insL_len r, List.length_cons]
theorem radd_is (ho : Ok L) {f l : Int} (hb : ¬ bad f l = true) : addR L f l = if (joinL (insL f l (withoutL L f l))).length > 65536 then (3, L) else (0, joinL (insL f l (withoutL L f l))) := by
  obtain ⟨h0, h1, h2⟩ := not_bad hb
  unfold addR
  rw [if_neg hb, add_is L ho f l h0 h1 h2]
theorem ins_bound {f l : Int} (ho : Ok L) (h0 : 0 ≤ f) (h1 : f ≤ l) (h2 : l ≤ 4611686018427387903) : ∀ x ∈ insL f l (withoutL L f l), x.2 ≤ 4611686018427387903 ∧ -1 ≤ x.2 := fun x hx => by
  rcases insL_in _ f l x hx with rfl | hx
  · simp only; omega
  · have := (without_ok L f l ho h0 h1 h2).1.2 x hx
    omega
theorem add_fin {w2 w3 : World} {v' : Value} {J : List Sp} (h : RefAt w base g v L) (hbw : base ≤ w.heap.size) (h2 : Below w.heap.size w w2) (h3 : Below w2.heap.size w2 w3) (ho : w3.ownsRow w2.heap.size 39 2 v' J.length (cells J)) (hok : Ok J) (hf : J.length ≤ 65536) :
    RefAt (w3.setCell ⟨g, 0, none⟩ v') base g v' J ∧ LftR w (w3.setCell ⟨g, 0, none⟩ v') base g v v' :=
  ref_set h (h2.trans (h3.mono h2.size)) (own_mono ho h2.size) hok hf hbw
set_option maxHeartbeats 6400000 in
set_option maxRecDepth 100000 in
theorem radd_s (h : RefAt w base g v L) (hbw : base ≤ w.heap.size) (f l : Int) :
    Calls Try.prog 30 #[.pointer (some ⟨g, 0, none⟩), .int .i64 f, .int .i64 l] w fun e w' => ∃ v', e = .returned (.int .i64 (addR L f l).1) ∧ RefAt w' base g v' (addR L f l).2 ∧ LftR w w' base g v v' := by
  obtain ⟨A, c, rfl, hc, hnc, _⟩ := row_form h.row
  have H := Aside0.mk h
  have c0 := h.c0
  have HW := Aside0.mk (rwrong_s w f l)
  by_cases hb : bad f l = true
  · have e1 : addR L f l = (2, L) := by unfold addR; rw [if_pos hb]
    rw [e1]
    rw [hb] at HW
    clear h hb e1
    go_enter Try.func30, Try.ntmps30
    go_wp2_with (go_at_call 50; refine HW.out.mono ?_; rintro e w' ⟨rfl, rfl⟩)
    go_ret
    exact ⟨_, rfl, H.out, LftR.of_below (Below.refl _ _) hbw⟩
  · obtain ⟨hf0, hfl, hl1⟩ := not_bad hb
    have HR := Aside0.mk (radd_is h.ok hb)
    have HIB := Aside0.mk (ins_bound h.ok hf0 hfl hl1)
    have HOK : Aside0 (Ok (joinL (insL f l (withoutL L f l)))) := ⟨by rw [add_is L h.ok f l hf0 hfl hl1]; exact (addL_ok L h.ok f l hf0 hfl hl1).1⟩
    have HWO := Aside0.mk (rwithout_s (w := w) h.row (by have := h.few; omega) f l hf0 (by omega) (by omega) hl1)
    have hml : (withoutL L f l).length ≤ 131072 := by have := wo_len L f l; have := h.few; omega
    rw [show bad f l = false by simpa using hb] at HW
    obtain ⟨M, hM⟩ : ∃ M, withoutL L f l = M := ⟨_, rfl⟩
    rw [hM] at HR HOK HWO HIB hml
    have HIL := Aside0.mk (insL_len M f l)
    obtain ⟨J, hJ⟩ : ∃ J, joinL (insL f l M) = J := ⟨_, rfl⟩
    rw [hJ] at HR HOK
    have HJO : Aside0 (∀ (w : World) (base : Nat) (A : Option Addr) (n c : Nat), w.ownsRow base 39 2 (.slice A n c) n (cells (insL f l M)) → n = (insL f l M).length →
        Calls Try.prog 52 #[.slice A n c] w fun e w' => ∃ A' c', e = .returned (.slice A' J.length c') ∧ w'.ownsRow w.heap.size 39 2 (.slice A' J.length c') J.length (cells J) ∧ Below w.heap.size w w') := ⟨fun w base A n c h1 h2 => by
      have := rjoined_s h1 h2 (by rw [insL_len]; omega) HIB.out
      rw [hJ] at this
      exact this⟩
    clear hM hJ h hb
    go_enter Try.func30, Try.ntmps30
    go_wp2_with (first
      | (go_at_call 50; refine HW.out.mono ?_; rintro e w' ⟨rfl, rfl⟩)
      | (go_at_call 51; refine HWO.out.mono ?_; rintro e w1 ⟨A1, c1, rfl, ho, hbl⟩; have HO := Aside0.mk ho; have HBL := Aside0.mk hbl; have e0 := (H.out.below hbl).c0; have e1 := (H.out.below hbl).fz; clear ho hbl))
    go_loopw [8, 9, 10] (fun lv pv kv wr => RAdd w1 M f l lv pv kv wr) (fun _ _ kv _ => M.length - (intOf kv).toNat)
    case atStart => exact ⟨0, [], false, Nat.zero_le _, rfl, rfl, by simp, rfl, World.ownsRow_nil _ _ _ _, Below.refl _ _⟩
    case round =>
      obtain ⟨k, N, put, hk, rfl, rfl, hn, hins, hown, hbx⟩ := hrel
      obtain ⟨Al, cl, rfl, _⟩ := row_form hown
      have HO2 := Aside0.mk hown
      have HBX := Aside0.mk hbx
      have HINS := Aside0.mk hins
      clear hown hbx hins
      by_cases hlt : k < M.length
      · obtain ⟨y, hy⟩ : ∃ y, M[k]? = some y := ⟨_, List.getElem?_eq_getElem hlt⟩
        obtain ⟨g1, c1', hv, _, _, a2, a3⟩ := row_at HO.out k y hy
        injection hv with hv1 _ hv2
        subst hv1; subst hv2
        have b2 := pw_cell_below HBX.out a2
        have b3 := pw_cell_below HBX.out a3
        have HD := Aside0.mk (drop_at hy)
        clear hy
        cases put with
        | false =>
          have hn' : N.length ≤ k := by simpa using hn
          by_cases hgt : y.1 > l
          · go_wp2_with (first
              | (at_builtin; refine wpList_append_span (w0 := w1) (W := wr) w1.heap.size rfl _ _ rfl (.slice Al N.length cl) N (f, l) rfl wr.heap.size rfl rfl _ HO2.out HBX.out HBX.out.size (by omega) ?_; intro v2 w2 h1 h2; have p2 := pw_cell_below h2 a2; have p3 := pw_cell_below h2 a3; obtain ⟨A2, n2, rfl, _⟩ := row_form h1; have HO3 := Aside0.mk h1; have HB3 := Aside0.mk h2; clear h1 h2 b2 b3)
              | (at_builtin; refine wpList_append_span (w0 := w1) (W := w2) w1.heap.size rfl _ _ rfl (.slice A2 (N.length + 1) n2) (N ++ [(f, l)]) y rfl w2.heap.size rfl rfl _ HO3.out HB3.out HB3.out.size (by omega) ?_; intro v3 w3 h1 h2; obtain ⟨A3, n3, rfl, _⟩ := row_form h1; have HO4 := Aside0.mk h1; have HB4 := Aside0.mk h2; clear h1 h2))
            exact ⟨⟨k + 1, N ++ [(f, l)] ++ [y], true, by omega, by simp, rfl, by simp; omega, by
              rw [HINS.out, HD.out]
              simp only [Bool.false_eq_true, if_false, if_true]
              rw [show insL f l (y :: M.drop (k + 1)) = (f, l) :: y :: M.drop (k + 1) from by rw [insL, if_pos hgt]]
              simp, by simpa using HO4.out, HB4.out⟩, by simp [intOf]; omega⟩
          · have hgt' : y.1 ≤ l := by omega
            clear hgt
            go_wp2_with (at_builtin; refine wpList_append_span (w0 := w1) (W := wr) w1.heap.size rfl _ _ rfl (.slice Al N.length cl) N y rfl wr.heap.size rfl rfl _ HO2.out HBX.out HBX.out.size (by omega) ?_; intro v2 w2 h1 h2; obtain ⟨A2, n2, rfl, _⟩ := row_form h1; have HO3 := Aside0.mk h1; have HB3 := Aside0.mk h2; clear h1 h2)
            exact ⟨⟨k + 1, N ++ [y], false, by omega, by simp, rfl, by simp; omega, by
              rw [HINS.out, HD.out]
              simp only [Bool.false_eq_true, if_false]
              rw [show insL f l (y :: M.drop (k + 1)) = y :: insL f l (M.drop (k + 1)) from by rw [insL, if_neg (by omega)]]
              simp, by simpa using HO3.out, HB3.out⟩, by simp [intOf]; omega⟩
        | true =>
          have hn' : N.length ≤ k + 1 := by simpa using hn
          go_wp2_with (at_builtin; refine wpList_append_span (w0 := w1) (W := wr) w1.heap.size rfl _ _ rfl (.slice Al N.length cl) N y rfl wr.heap.size rfl rfl _ HO2.out HBX.out HBX.out.size (by omega) ?_; intro v2 w2 h1 h2; obtain ⟨A2, n2, rfl, _⟩ := row_form h1; have HO3 := Aside0.mk h1; have HB3 := Aside0.mk h2; clear h1 h2)
          exact ⟨⟨k + 1, N ++ [y], true, by omega, by simp, rfl, by simp; omega, by
            rw [HINS.out, HD.out]
            simp only [if_true]
            simp, by simpa using HO3.out, HB3.out⟩, by simp [intOf]; omega⟩
      · obtain rfl : k = M.length := by omega
        have hb2 : Below w.heap.size w wr := HBL.out.trans (HBX.out.mono HBL.out.size)
        have HBW := Aside0.mk hb2
        clear hb2
        cases put with
        | false =>
          have hn' : N.length ≤ M.length := by simpa using hn
          have HNI : Aside0 (N ++ [(f, l)] = insL f l M) := ⟨by have := HINS.out; rw [List.drop_length] at this; exact this.symm⟩
          by_cases hbig : J.length > 65536
          · have hb1 : (J.length : Int) > 65536 := by omega
            have hb2 : addR L f l = (3, L) := by rw [HR.out, if_pos hbig]
            have HRES := Aside0.mk hb2
            clear hb2
            go_wp2_with (first
              | (at_builtin; refine wpList_append_span (w0 := w1) (W := wr) w1.heap.size rfl _ _ rfl (.slice Al N.length cl) N (f, l) rfl wr.heap.size rfl rfl _ HO2.out HBX.out HBX.out.size (by omega) ?_; intro v2 w2 h1 h2; obtain ⟨A2, n2, rfl, _⟩ := row_form h1; have HO3 := Aside0.mk h1; have HB3 := Aside0.mk (HBL.out.trans (h2.mono HBL.out.size)); clear h1 h2)
              | (go_at_call 52; refine (HJO.out w2 w1.heap.size A2 (N.length + 1) n2 (by rw [← HNI.out]; exact HO3.out) (by rw [← HNI.out]; simp)).mono ?_; rintro e w5 ⟨A5, c5, rfl, ho, hbl⟩; have HO5 := Aside0.mk ho; have HB5 := Aside0.mk hbl; have HBJ := Aside0.mk (HB3.out.trans (hbl.mono HB3.out.size)); have z0 := (H.out.below HBJ.out).c0; have z1 := (H.out.below HBJ.out).fz; clear ho hbl))
            go_ret
            rw [HRES.out]
            exact ⟨_, rfl, H.out.below HBJ.out, LftR.of_below HBJ.out hbw⟩
          · have hb1 : (J.length : Int) ≤ 65536 := by omega
            have hb2 : addR L f l = (0, J) := by rw [HR.out, if_neg hbig]
            have HRES := Aside0.mk hb2
            clear hb2
            go_wp2_with (first
              | (at_builtin; refine wpList_append_span (w0 := w1) (W := wr) w1.heap.size rfl _ _ rfl (.slice Al N.length cl) N (f, l) rfl wr.heap.size rfl rfl _ HO2.out HBX.out HBX.out.size (by omega) ?_; intro v2 w2 h1 h2; obtain ⟨A2, n2, rfl, _⟩ := row_form h1; have HO3 := Aside0.mk h1; have HB3 := Aside0.mk (HBL.out.trans (h2.mono HBL.out.size)); clear h1 h2)
              | (go_at_call 52; refine (HJO.out w2 w1.heap.size A2 (N.length + 1) n2 (by rw [← HNI.out]; exact HO3.out) (by rw [← HNI.out]; simp)).mono ?_; rintro e w5 ⟨A5, c5, rfl, ho, hbl⟩; have HO5 := Aside0.mk ho; have HB5 := Aside0.mk hbl; have HBJ := Aside0.mk (HB3.out.trans (hbl.mono HB3.out.size)); have z0 := (H.out.below HBJ.out).c0; have z1 := (H.out.below HBJ.out).fz; clear ho hbl))
            go_ret
            rw [HRES.out]
            exact ⟨_, rfl, add_fin H.out hbw HB3.out HB5.out HO5.out HOK.out (by show J.length ≤ 65536; omega)⟩
        | true =>
          have hn' : N.length ≤ M.length + 1 := by simpa using hn
          have HNI : Aside0 (N = insL f l M) := ⟨by have := HINS.out; simp at this; exact this.symm⟩
          by_cases hbig : J.length > 65536
          · have hb1 : (J.length : Int) > 65536 := by omega
            have hb2 : addR L f l = (3, L) := by rw [HR.out, if_pos hbig]
            have HRES := Aside0.mk hb2
            clear hb2
            go_wp2_with (go_at_call 52; refine (HJO.out wr w1.heap.size Al N.length cl (by rw [← HNI.out]; exact HO2.out) (by rw [← HNI.out])).mono ?_; rintro e w5 ⟨A5, c5, rfl, ho, hbl⟩; have HO5 := Aside0.mk ho; have HB5 := Aside0.mk hbl; have HBJ := Aside0.mk (HBW.out.trans (hbl.mono HBW.out.size)); have z0 := (H.out.below HBJ.out).c0; have z1 := (H.out.below HBJ.out).fz; clear ho hbl)
            go_ret
            rw [HRES.out]
            exact ⟨_, rfl, H.out.below HBJ.out, LftR.of_below HBJ.out hbw⟩
          · have hb1 : (J.length : Int) ≤ 65536 := by omega
            have hb2 : addR L f l = (0, J) := by rw [HR.out, if_neg hbig]
            have HRES := Aside0.mk hb2
            clear hb2
            go_wp2_with (go_at_call 52; refine (HJO.out wr w1.heap.size Al N.length cl (by rw [← HNI.out]; exact HO2.out) (by rw [← HNI.out])).mono ?_; rintro e w5 ⟨A5, c5, rfl, ho, hbl⟩; have HO5 := Aside0.mk ho; have HB5 := Aside0.mk hbl; have HBJ := Aside0.mk (HBW.out.trans (hbl.mono HBW.out.size)); have z0 := (H.out.below HBJ.out).c0; have z1 := (H.out.below HBJ.out).fz; clear ho hbl)
            go_ret
            rw [HRES.out]
            exact ⟨_, rfl, add_fin H.out hbw HBW.out HB5.out HO5.out HOK.out (by show J.length ≤ 65536; omega)⟩
end Go.Proofs.Ytmkojmjjlcfohaa.Rg
