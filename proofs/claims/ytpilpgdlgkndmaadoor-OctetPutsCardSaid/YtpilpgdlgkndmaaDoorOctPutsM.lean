/- OctetPuts over numbers alone: what the program lays is what the document's answer lays; no condition. -/
import Derived.Test.YtpilpgdlgkndmaaDoorOctM
import Derived.Test.YtpilpgdlgkndmaaDoorQOctx3
set_option linter.unusedVariables false
set_option linter.unusedSimpArgs false
namespace Go.Proofs.YtpilpgdlgkndmaaDoor.Puts
open Go.RowKit Go.Proofs.YtpilpgdlgkndmaaDoor.QOct Go.Proofs.YtpilpgdlgkndmaaDoor.OctM Go.Proofs.YtpilpgdlgkndmaaDoorW.PrintWords Go.Proofs.YtpilpgdlgkndmaaDoorW.PrintLast Go.Proofs.YtpilpgdlgkndmaaDoorW.PrintMore

theorem bytes_loop (v : Int) : ∀ (m k : Nat) (out : List Int), m ≤ 8 → out.length + m ≤ 140737488355327 →
    caravelref01_Bytes.l0 (k + m + 1) v out ((m : Int) - 1) = some (out ++ layR v m) := by
  intro m
  induction m with
  | zero =>
    intro k out _ _
    simp only [caravelref01_Bytes.l0]
    rw [if_neg (by omega)]; simp [layR]
  | succ m ih =>
    intro k out hm ho
    have e0 : ((m + 1 : Nat) : Int) - 1 = (m : Int) := by omega
    have e3 : wrap64 (8 * (m : Int)) = 8 * (m : Int) := wrap64_id (by omega) (by omega)
    have e4 : wrap64 ((m : Int) - 1) = (m : Int) - 1 := wrap64_id (by omega) (by omega)
    have e6 : IntKind.u64.wrap (8 * (m : Int)) = 8 * (m : Int) := by rw [wrap_u64_mod]; omega
    have e5 : shr .u64 v (8 * (m : Int)) = v / 256 ^ m := by
      unfold shr
      have : min (8 * (m : Int)).toNat IntKind.u64.bits = 8 * m := by simp [IntKind.bits]; omega
      rw [this, Int.pow_mul]; rfl
    have := ih k (out ++ [v / 256 ^ m % 256]) (by omega) (by rw [List.length_append]; simp; omega)
    rw [show k + (m + 1) + 1 = (k + m + 1) + 1 by omega, caravelref01_Bytes.l0, e0, e3, e4, e6, e5]
    rw [if_pos (by omega), if_pos (by omega), if_pos (by omega), this, layR]
    simp
theorem bytes_ok (f : Nat) (v : Int) (n : Nat) (h : n ≤ 8) (hf : n + 1 ≤ f) : caravelref01_Bytes.f f v n = some (layR v n) := by
  obtain ⟨j, rfl⟩ : ∃ j, f = j + n + 1 := ⟨f - (n + 1), by omega⟩
  unfold caravelref01_Bytes.f
  rw [wrap64_id (by omega) (by omega), bytes_loop v n j [] h (by simp; omega)]
  rfl
/-- The first byte told apart. -/
theorem lay_top {k n M s : Int} {nn : Nat} (H : OctM.Form k n M nn s) (v : Int) (h0 : 0 ≤ v) (h1 : v < M) :
    (layR v nn).set 0 ((rd (layR v nn) 0 + wrap64 (k * 64) % 256) % 256) = layR (v + k * M) nn := by
  obtain ⟨m, rfl⟩ : ∃ m, nn = m + 1 := ⟨nn - 1, by have := H.n1; omega⟩
  have hk0 := H.k0
  have hk3 := H.k3
  have hM : M = 64 * 256 ^ m := by
    have hp := H.pw
    rw [Int.pow_succ] at hp
    have := pow256_pos m
    generalize (256 : Int) ^ m = p at *
    omega
  have low : ∀ j, j ≤ m → ∀ c : Int, layR (v + c * 256 ^ m) j = layR v j := by
    intro j
    induction j with
    | zero => intro _ _; rfl
    | succ j ih =>
      intro hj c
      rw [layR, layR, ih (by omega) c]
      congr 1
      obtain ⟨d, rfl⟩ : ∃ d, m = j + 1 + d := ⟨m - (j + 1), by omega⟩
      have e : v + c * 256 ^ (j + 1 + d) = v + (c * 256 ^ d * 256) * 256 ^ j := by
        rw [Int.pow_add, Int.pow_succ]
        simp only [Int.mul_comm, Int.mul_left_comm, Int.mul_assoc]
      rw [e, Int.add_mul_ediv_right _ _ (by have := pow256_pos j; omega)]
      omega
  have e1 : wrap64 (k * 64) % 256 = k * 64 := by rw [wrap64_id (by omega) (by omega)]; omega
  rw [layR, layR, List.set_cons_zero, e1, hM, show k * (64 * 256 ^ m) = (k * 64) * 256 ^ m by rw [Int.mul_assoc], low m (Nat.le_refl _), Int.add_mul_ediv_right _ _ (by have := pow256_pos m; omega)]
  congr 1
  simp [rd]
theorem refSize_ok (v : Int) (f : Nat) (hf : 6 ≤ f) : caravelref01_Size.f f v = octet_Size.f v := by
  obtain ⟨j, rfl⟩ : ∃ j, f = j + 6 := ⟨f - 6, by omega⟩
  by_cases c0 : v < 0
  · unfold caravelref01_Size.f octet_Size.f octet_lies.f
    rw [if_pos c0, if_neg (by omega), caravelref01_Size.j0, if_pos rfl, Option.bind_some, if_neg (by decide)]
  by_cases c1 : v > 4611686018427387903
  · unfold caravelref01_Size.f octet_Size.f octet_lies.f
    rw [if_neg c0, if_pos (by omega), caravelref01_Size.j0, decide_eq_true c1, if_pos rfl, Option.bind_some, if_neg (by simp; omega)]
  obtain ⟨n, M, nn, s, H, hM⟩ := form_of v (by omega) (by omega)
  rw [size_ok v (by omega) hM rfl H]
  have a1 : shl .i64 1 6 = 64 := by decide +kernel
  have a2 : shl .i64 1 14 = 16384 := by decide +kernel
  have a3 : shl .i64 1 30 = 1073741824 := by decide +kernel
  have a4 : shl .i64 1 62 = 4611686018427387904 := by decide +kernel
  have w1 : IntKind.u64.wrap (wrap64 (wrap64 (8 * 1) - 2)) = 6 := by decide +kernel
  have w2 : IntKind.u64.wrap (wrap64 (wrap64 (8 * 2) - 2)) = 14 := by decide +kernel
  have w3 : IntKind.u64.wrap (wrap64 (wrap64 (8 * 4) - 2)) = 30 := by decide +kernel
  have w4 : IntKind.u64.wrap (wrap64 (wrap64 (8 * 8) - 2)) = 62 := by decide +kernel
  have x1 : wrap64 (1 * 2) = 2 := by decide +kernel
  have x2 : wrap64 (2 * 2) = 4 := by decide +kernel
  have x3 : wrap64 (4 * 2) = 8 := by decide +kernel
  have hn := H.sh
  have hn' : n = 1 ∧ v < 64 ∨ n = 2 ∧ 64 ≤ v ∧ v < 16384 ∨ n = 4 ∧ 16384 ≤ v ∧ v < 1073741824 ∨ n = 8 ∧ 1073741824 ≤ v := by
    rw [← hn]
    unfold formF
    have s0 : shl .i64 1 0 = 1 := by decide +kernel
    have s1 : shl .i64 1 1 = 2 := by decide +kernel
    have s2 : shl .i64 1 2 = 4 := by decide +kernel
    have s3 : shl .i64 1 3 = 8 := by decide +kernel
    split
    · left; exact ⟨s0, by omega⟩
    · split
      · right; left; exact ⟨s1, by omega, by omega⟩
      · split
        · right; right; left; exact ⟨s2, by omega, by omega⟩
        · right; right; right; exact ⟨s3, by omega⟩
  unfold caravelref01_Size.f
  rw [if_neg c0, caravelref01_Size.j0, decide_eq_false c1, if_neg (by decide)]
  rw [caravelref01_Size.l0, w1, a1, x1, if_pos (by decide)]
  rcases hn' with ⟨rfl, h⟩ | ⟨rfl, h, h'⟩ | ⟨rfl, h, h'⟩ | ⟨rfl, h⟩
  · rw [if_neg (by omega)]
  · rw [if_pos (by omega), caravelref01_Size.l0, w2, a2, x2, if_pos (by decide), if_neg (by omega)]
  · rw [if_pos (by omega), caravelref01_Size.l0, w2, a2, x2, if_pos (by decide), if_pos (by omega), caravelref01_Size.l0, w3, a3, x3, if_pos (by decide), if_neg (by omega)]
  · rw [if_pos (by omega), caravelref01_Size.l0, w2, a2, x2, if_pos (by decide), if_pos (by omega), caravelref01_Size.l0, w3, a3, x3, if_pos (by decide), if_pos (by omega), caravelref01_Size.l0, w4, a4, if_pos (by decide), if_neg (by omega)]
/-- 'behind' on two answers that are what is wanted. -/
theorem behind_loop (x1 : List Int) (x13 : ByteArray) (hs : ((strOfNums x1).toList == x13.toList) = true) : ∀ (d : Nat) (f i : Nat) (x0 : List Int), x0.length ≤ 140737488355327 → x0.length - i = d → d < f →
    ∃ z, caravellaw01_behind.l0 f x0 x1 x13 (i : Int) = some (true, z) := by
  intro d
  induction d with
  | zero =>
    intro f i x0 hl hd hf
    obtain ⟨j, rfl⟩ : ∃ j, f = j + 1 := ⟨f - 1, by omega⟩
    exact ⟨x0, by rw [caravellaw01_behind.l0, if_neg (by omega), hs]⟩
  | succ d ih =>
    intro f i x0 hl hd hf
    obtain ⟨j, rfl⟩ : ∃ j, f = j + 1 := ⟨f - 1, by omega⟩
    rw [caravellaw01_behind.l0, if_pos (by omega), if_pos (by omega), wrap64_id (by omega) (by omega)]
    have := ih j (i + 1) (x0.set (i : Int).toNat ((rd x0 i + 1) % 256)) (by simp; exact hl) (by simp; omega) (by omega)
    exact this
theorem behind_ok (x l want : List Int) (e bad : Int) (f : Nat) (he : e = bad) (hx : x = if bad = 0 then l ++ want else []) (hl : l.length + want.length ≤ 140737488355327) (hf : l.length + want.length + 3 ≤ f) :
    ∃ z, caravellaw01_behind.f f x x e l want bad = some (true, z) := by
  obtain ⟨j, rfl⟩ : ∃ j, f = j + 1 := ⟨f - 1, by omega⟩
  unfold caravellaw01_behind.f
  rw [if_pos he]
  by_cases hb : bad = 0
  · rw [if_pos hb] at hx
    have hs : ∀ q : List Int, (strOfNums q).size = q.length := fun q => by simp [strOfNums, ByteArray.size]
    have hq : (strOfNums x).toList = ((strOfNums l) ++ (strOfNums want)).toList := by
      rw [hx]
      congr 1
      apply ByteArray.ext
      simp [strOfNums, ByteArray.data_append]
    have hxl : x.length = l.length + want.length := by rw [hx, List.length_append]
    rw [if_pos hb, if_pos (by rw [hs, hs]; omega), caravellaw01_behind.j0, if_pos hq]
    exact behind_loop x _ (by rw [hq]; exact beq_self_eq_true _) x.length j 0 x (by omega) (by omega) (by omega)
  · rw [if_neg hb] at hx
    have hq : (strOfNums x).toList = (⟨#[]⟩ : ByteArray).toList := by rw [hx]; rfl
    rw [if_neg hb, caravellaw01_behind.j0, if_pos hq]
    exact behind_loop x _ (by rw [hq]; exact beq_self_eq_true _) 0 j 0 x (by rw [hx]; simp) (by rw [hx]; rfl) (by omega)
/-- A form as the document's answer has it. -/
structure FormR (k n M : Int) (nn : Nat) (s : Int) : Prop where
  F : OctM.Form k n M nn s
  idx : ∀ f, 6 ≤ f → slices_Index_int_int.f f [1, 2, 4, 8] n = some k
  one : n = 1 ∨ n = 2 ∨ n = 4 ∨ n = 8
  sh : shl .i64 1 (IntKind.u64.wrap (wrap64 (wrap64 (8 * n) - 2))) = M
  s0 : 0 ≤ IntKind.u64.wrap (wrap64 (wrap64 (8 * n) - 2))
  big : ∀ v, 0 ≤ v → v < 4611686018427387904 → (formF v > k ↔ M ≤ v)
  loop : ∀ f v, caravelref01_Wide.l0 (f + 4) v n 0 1 = (caravelref01_Bytes.f (f + 3 - k.toNat) (IntKind.u64.wrap v) n).bind fun t => if 0 < (t.length : Int) then some (t.set (0 : Int).toNat ((rd t 0 + wrap64 (k * 64) % 256) % 256), 0) else none
theorem w01 : wrap64 (0 + 1) = 1 := by decide +kernel
theorem w12 : wrap64 (1 + 1) = 2 := by decide +kernel
theorem w23 : wrap64 (2 + 1) = 3 := by decide +kernel
theorem d12 : wrap64 (1 * 2) = 2 := by decide +kernel
theorem d24 : wrap64 (2 * 2) = 4 := by decide +kernel
theorem d48 : wrap64 (4 * 2) = 8 := by decide +kernel
theorem idx_all (n : Int) (f : Nat) (hf : 6 ≤ f) : slices_Index_int_int.f f [1, 2, 4, 8] n = some (if n = 1 then 0 else if n = 2 then 1 else if n = 4 then 2 else if n = 8 then 3 else -1) := by
  obtain ⟨j, rfl⟩ : ∃ j, f = j + 5 := ⟨f - 5, by omega⟩
  by_cases c1 : n = 1
  · subst c1; simp [slices_Index_int_int.f, slices_Index_int_int.l0, rd, wrap64]
  by_cases c2 : n = 2
  · subst c2; simp [slices_Index_int_int.f, slices_Index_int_int.l0, rd, wrap64]
  by_cases c4 : n = 4
  · subst c4; simp [slices_Index_int_int.f, slices_Index_int_int.l0, rd, wrap64]
  by_cases c8 : n = 8
  · subst c8; simp [slices_Index_int_int.f, slices_Index_int_int.l0, rd, wrap64]
  simp [slices_Index_int_int.f, slices_Index_int_int.l0, rd, wrap64, c1, c2, c4, c8]
theorem formR0 : FormR 0 1 64 1 6 where
  F := form0
  idx f hf := by rw [idx_all _ _ hf]; rfl
  one := .inl rfl
  sh := by decide +kernel
  s0 := by decide +kernel
  big v h0 h1 := by unfold formF; (repeat' split) <;> omega
  loop f v := by rw [caravelref01_Wide.l0, if_neg (by decide)]; rfl
theorem formR1 : FormR 1 2 16384 2 14 where
  F := form1
  idx f hf := by rw [idx_all _ _ hf]; rfl
  one := .inr (.inl rfl)
  sh := by decide +kernel
  s0 := by decide +kernel
  big v h0 h1 := by unfold formF; (repeat' split) <;> omega
  loop f v := by rw [caravelref01_Wide.l0, if_pos (by decide), w01, d12, caravelref01_Wide.l0, if_neg (by decide)]; rfl
theorem formR2 : FormR 2 4 1073741824 4 30 where
  F := form2
  idx f hf := by rw [idx_all _ _ hf]; rfl
  one := .inr (.inr (.inl rfl))
  sh := by decide +kernel
  s0 := by decide +kernel
  big v h0 h1 := by unfold formF; (repeat' split) <;> omega
  loop f v := by rw [caravelref01_Wide.l0, if_pos (by decide), w01, d12, caravelref01_Wide.l0, if_pos (by decide), w12, d24, caravelref01_Wide.l0, if_neg (by decide)]; rfl
theorem formR3 : FormR 3 8 4611686018427387904 8 62 where
  F := form3
  idx f hf := by rw [idx_all _ _ hf]; rfl
  one := .inr (.inr (.inr rfl))
  sh := by decide +kernel
  s0 := by decide +kernel
  big v h0 h1 := by unfold formF; (repeat' split) <;> omega
  loop f v := by rw [caravelref01_Wide.l0, if_pos (by decide), w01, d12, caravelref01_Wide.l0, if_pos (by decide), w12, d24, caravelref01_Wide.l0, if_pos (by decide), w23, d48, caravelref01_Wide.l0, if_neg (by decide)]; rfl
theorem formR_of (v : Int) (h0 : 0 ≤ v) (h1 : v < 4611686018427387904) : ∃ n M nn s, FormR (formF v) n M nn s ∧ v < M := by
  unfold formF
  split
  · exact ⟨_, _, _, _, formR0, by omega⟩
  · split
    · exact ⟨_, _, _, _, formR1, by omega⟩
    · split
      · exact ⟨_, _, _, _, formR2, by omega⟩
      · exact ⟨_, _, _, _, formR3, by omega⟩
theorem formR_n (n : Int) (h : n = 1 ∨ n = 2 ∨ n = 4 ∨ n = 8) : ∃ k M nn s, FormR k n M nn s := by
  rcases h with rfl | rfl | rfl | rfl
  · exact ⟨_, _, _, _, formR0⟩
  · exact ⟨_, _, _, _, formR1⟩
  · exact ⟨_, _, _, _, formR2⟩
  · exact ⟨_, _, _, _, formR3⟩
theorem size_lies (v : Int) (f : Nat) (hf : 6 ≤ f) (h0 : 0 ≤ v) (h1 : v < 4611686018427387904) : ∃ n, caravelref01_Size.f f v = some (n, 0) := by
  obtain ⟨n, M, nn, s, H, hM⟩ := form_of v h0 h1
  exact ⟨n, by rw [refSize_ok v f hf, size_ok v h0 hM rfl H]⟩
theorem size_not (v : Int) (f : Nat) (hf : 6 ≤ f) (h : ¬ (0 ≤ v ∧ v < 4611686018427387904)) : caravelref01_Size.f f v = some (0, 2) ∧ octet_Size.f v = some (0, 2) := by
  have : octet_Size.f v = some (0, 2) := by
    unfold octet_Size.f octet_lies.f
    by_cases c : v ≥ 0
    · rw [if_pos c, Option.bind_some, if_neg (by simp; omega)]
    · rw [if_neg c, Option.bind_some, if_neg (by decide)]
  exact ⟨by rw [refSize_ok v f hf, this], this⟩
theorem size_some (v : Int) : ∃ a b, octet_Size.f v = some (a, b) := by
  by_cases h : 0 ≤ v ∧ v < 4611686018427387904
  · obtain ⟨n, M, nn, s, H, hM⟩ := form_of v h.1 h.2
    exact ⟨n, 0, size_ok v h.1 hM rfl H⟩
  · exact ⟨0, 2, (size_not v 6 (by omega) h).2⟩
/-- The document's bytes of a number in a form. -/
theorem refWide_ok {k n M s : Int} {nn : Nat} (H : FormR k n M nn s) (v : Int) (h0 : 0 ≤ v) (h1 : v < M) (f : Nat) (hf : 30 ≤ f) : caravelref01_Wide.f f v n = some (layR (v + k * M) nn, 0) := by
  obtain ⟨j, rfl⟩ : ∃ j, f = j + 5 := ⟨f - 5, by omega⟩
  have hm := H.F.mtop
  obtain ⟨sz, hsz⟩ := size_lies v (j + 5) (by omega) h0 (by omega)
  have e1 : IntKind.u64.wrap v = v := by rw [wrap_u64_mod]; omega
  have hb : caravelref01_Bytes.f (j + 3 - k.toNat) v n = some (layR v nn) := by
    have h8 := H.F.n8
    have hk := H.F.k3
    rw [H.F.nw]
    exact bytes_ok _ v nn h8 (by omega)
  have hj : caravelref01_Wide.j0 (j + 5) v n false = some (layR (v + k * M) nn, 0) := by
    rw [caravelref01_Wide.j0, if_neg (by decide), if_pos H.s0, H.sh, if_neg (by omega), H.loop j v, e1, hb, Option.bind_some, if_pos (by rw [layR_len]; have := H.F.n1; omega)]
    rw [show (0 : Int).toNat = 0 from rfl, lay_top H.F v h0 h1]
  unfold caravelref01_Wide.f
  rw [hsz, Option.bind_some, if_pos rfl]
  rcases H.one with rfl | rfl | rfl | rfl
  · rw [if_pos rfl, hj]
  · rw [if_neg (by decide), if_pos rfl, hj]
  · rw [if_neg (by decide), if_neg (by decide), if_pos rfl, hj]
  · rw [if_neg (by decide), if_neg (by decide), if_neg (by decide)]; exact hj
theorem refWide_big {k n M s : Int} {nn : Nat} (H : FormR k n M nn s) (v : Int) (h0 : 0 ≤ v) (h1 : v < 4611686018427387904) (h2 : M ≤ v) (f : Nat) (hf : 30 ≤ f) : caravelref01_Wide.f f v n = some ([], 3) := by
  obtain ⟨j, rfl⟩ : ∃ j, f = j + 5 := ⟨f - 5, by omega⟩
  obtain ⟨sz, hsz⟩ := size_lies v (j + 5) (by omega) h0 (by omega)
  have hj : caravelref01_Wide.j0 (j + 5) v n false = some ([], 3) := by
    rw [caravelref01_Wide.j0, if_neg (by decide), if_pos H.s0, H.sh, if_pos (by omega)]
  unfold caravelref01_Wide.f
  rw [hsz, Option.bind_some, if_pos rfl]
  rcases H.one with rfl | rfl | rfl | rfl
  · rw [if_pos rfl, hj]
  · rw [if_neg (by decide), if_pos rfl, hj]
  · rw [if_neg (by decide), if_neg (by decide), if_pos rfl, hj]
  · rw [if_neg (by decide), if_neg (by decide), if_neg (by decide)]; exact hj
theorem putWide_form {k n M s : Int} {nn : Nat} (H : FormR k n M nn s) (l : List Int) (v : Int) (h0 : 0 ≤ v) (h1 : v < 4611686018427387904) (hl : l.length ≤ 140737488351232) (f : Nat) (hf : 30 ≤ f) :
    octet_PutWide.f f l v n = if v < M then some (l ++ layR (v + k * M) nn, 0) else some ([], 3) := by
  obtain ⟨j, rfl⟩ : ∃ j, f = j + 1 := ⟨f - 1, by omega⟩
  unfold octet_PutWide.f
  rw [H.idx _ (by omega), Option.bind_some, lies_ok v h0 h1, Option.bind_some, if_pos rfl]
  have hk := H.F.k0
  have h8 := H.F.n8
  rw [show decide (k < 0) = false by simp; omega, octet_PutWide.j0, if_neg (by decide)]
  unfold octet_form.f
  rw [if_pos h0, Option.bind_some]
  by_cases c : v < M
  · rw [if_pos c, if_neg (fun h => by have := (H.big v h0 h1).1 h; omega), wide_okf H.F j (by omega) l v h0 c hl, Option.bind_some]
  · rw [if_neg c, if_pos ((H.big v h0 h1).2 (by omega))]
theorem wide_facts (l : List Int) (v n : Int) (hl : l.length ≤ 140737488351232) (f : Nat) (hf : 30 ≤ f) :
    ∃ x t e, octet_PutWide.f f l v n = some (x, e) ∧ caravelref01_Wide.f f v n = some (t, e) ∧ (x = if e = 0 then l ++ t else []) ∧ t.length ≤ 8 := by
  obtain ⟨j, rfl⟩ : ∃ j, f = j + 1 := ⟨f - 1, by omega⟩
  by_cases hv : 0 ≤ v ∧ v < 4611686018427387904
  · by_cases hn : n = 1 ∨ n = 2 ∨ n = 4 ∨ n = 8
    · obtain ⟨k, M, nn, s, H⟩ := formR_n n hn
      by_cases c : v < M
      · exact ⟨_, _, _, by rw [putWide_form H l v hv.1 hv.2 hl _ hf, if_pos c], refWide_ok H v hv.1 c _ hf, by rw [if_pos rfl], by rw [layR_len]; exact H.F.n8⟩
      · exact ⟨_, _, _, by rw [putWide_form H l v hv.1 hv.2 hl _ hf, if_neg c], refWide_big H v hv.1 hv.2 (by omega) _ hf, by rw [if_neg (by decide)], by simp⟩
    · have h1 : n ≠ 1 := fun h => hn (.inl h)
      have h2 : n ≠ 2 := fun h => hn (.inr (.inl h))
      have h4 : n ≠ 4 := fun h => hn (.inr (.inr (.inl h)))
      have h8 : n ≠ 8 := fun h => hn (.inr (.inr (.inr h)))
      refine ⟨[], [], 2, ?_, ?_, by rw [if_neg (by decide)], by simp⟩
      · unfold octet_PutWide.f
        rw [idx_all _ _ (by omega), if_neg h1, if_neg h2, if_neg h4, if_neg h8, Option.bind_some, lies_ok v hv.1 hv.2, Option.bind_some, if_pos rfl, octet_PutWide.j0, if_pos (by decide)]
      · obtain ⟨sz, hsz⟩ := size_lies v (j + 1) (by omega) hv.1 hv.2
        unfold caravelref01_Wide.f
        rw [hsz, Option.bind_some, if_pos rfl, if_neg h1, if_neg h2, if_neg h4, show (n != 8) = true from bne_iff_ne.mpr h8, caravelref01_Wide.j0, if_pos rfl]
  · refine ⟨[], [], 2, ?_, ?_, by rw [if_neg (by decide)], by simp⟩
    · unfold octet_PutWide.f
      rw [idx_all _ _ (by omega), Option.bind_some]
      have : octet_lies.f v = some false := by
        unfold octet_lies.f
        by_cases c : v ≥ 0
        · rw [if_pos c]; simp; omega
        · rw [if_neg c]
      rw [this, Option.bind_some, if_neg (by decide), octet_PutWide.j0, if_pos rfl]
    · unfold caravelref01_Wide.f
      rw [(size_not v (j + 1) (by omega) hv).1, Option.bind_some, if_neg (by decide), caravelref01_Wide.j0, if_pos rfl]
theorem var_facts (l : List Int) (v : Int) (hl : l.length ≤ 140737488351232) (f : Nat) (hf : 30 ≤ f) :
    ∃ x t e, octet_PutVar.f f l v = some (x, e) ∧ caravelref01_Var.f f v = some (t, e) ∧ (x = if e = 0 then l ++ t else []) ∧ t.length ≤ 8 := by
  by_cases hv : 0 ≤ v ∧ v < 4611686018427387904
  · obtain ⟨n, M, nn, s, H, hM⟩ := formR_of v hv.1 hv.2
    refine ⟨_, _, _, putVar_ok v hv.1 hM rfl H.F f (by omega) l hl, ?_, by rw [if_pos rfl], by rw [layR_len]; exact H.F.n8⟩
    unfold caravelref01_Var.f
    rw [refSize_ok v f (by omega), size_ok v hv.1 hM rfl H.F, Option.bind_some, if_pos rfl, refWide_ok H v hv.1 hM f hf, Option.bind_some]
  · refine ⟨[], [], 2, ?_, ?_, by rw [if_neg (by decide)], by simp⟩
    · unfold octet_PutVar.f
      have : octet_lies.f v = some false := by
        unfold octet_lies.f
        by_cases c : v ≥ 0
        · rw [if_pos c]; simp; omega
        · rw [if_neg c]
      rw [this, Option.bind_some, if_neg (by decide)]
    · unfold caravelref01_Var.f
      rw [(size_not v f (by omega) hv).1, Option.bind_some, if_neg (by decide)]
theorem put_in (l : List Int) (v n : Int) (hn : 1 ≤ n ∧ n ≤ 8) (hl : l.length ≤ 140737488351232) (f : Nat) (hf : 30 ≤ f) :
    ∃ t, octet_Put.f f l v n = some (l ++ t, 0) ∧ caravelref01_Bytes.f f v n = some t ∧ t.length ≤ 8 := by
  obtain ⟨m, rfl⟩ := Int.eq_ofNat_of_zero_le (show 0 ≤ n by omega)
  refine ⟨layR v m, ?_, bytes_ok f v m (by omega) (by omega), by rw [layR_len]; omega⟩
  unfold octet_Put.f
  obtain ⟨j, rfl⟩ : ∃ j, f = j + m + 1 := ⟨f - (m + 1), by omega⟩
  rw [if_neg (by omega), if_neg (by omega), lay_ok j l v m (by omega) hl, Option.bind_some]
theorem put_out (l : List Int) (v n : Int) (hn : n < 1 ∨ 8 < n) (f : Nat) : octet_Put.f f l v n = some ([], 2) := by
  unfold octet_Put.f
  by_cases c : n < 1
  · rw [if_pos c]
  · rw [if_neg c, if_pos (by omega)]
end Go.Proofs.YtpilpgdlgkndmaaDoor.Puts
