/- slices.Sorted(maps.Keys(m)) at this seat: the shelf's laying in plain words (the kit's lay-plain) and Paths.addrs (layer 24); no condition. -/
import Derived.Shelf.SlIterI.Nil
import Derived.Test.YtakmcbakogjeeaaShelf
import Derived.Test.YtakmcbakogjeeaaPt2
set_option linter.unusedVariables false
set_option linter.unusedSimpArgs false
namespace Go.Proofs
open Go.Shelf
def Try.keysZ_ren : Go.Shelf.Ren := ⟨fun | 7 => 123 | 10 => 144 | n => n, fun | 23 => 106 | 26 => 3 | 3 => 169 | 28 => 200 | 0 => 0 | 27 => 199 | 33 => 63 | 4 => 4 | n => n, fun | n => n⟩
theorem Try.keysZ : Go.Proofs.SlLaysZI.n7 Try.prog Try.keysZ_ren := {
  mixed := by kernel_rfl
  f7 := ⟨Try.f123.name, by decide, Try.func123.trans (congrArg some (by kernel_rfl))⟩
  f10 := ⟨Try.f144.name, by decide, Try.func144.trans (congrArg some (by kernel_rfl))⟩
  t0 := Try.underlying0
  a0 := Try.isAgg0
  z0 := Try.sizeOf0
  v0 := Try.zeroValue0
  t4 := Try.underlying4
  a4 := Try.isAgg4
  z4 := Try.sizeOf4
  v4 := Try.zeroValue4
  t23 := Try.underlying106
  a23 := Try.isAgg106
  z23 := Try.sizeOf106
  v23 := Try.zeroValue106
  t26 := Try.underlying3
  a26 := Try.isAgg3
  z26 := Try.sizeOf3
  v26 := Try.zeroValue3
  t27 := Try.underlying199
  a27 := Try.isAgg199
  z27 := Try.sizeOf199
  v27 := Try.zeroValue199
  t28 := Try.underlying200
  a28 := Try.isAgg200
  z28 := Try.sizeOf200
  v28 := Try.zeroValue200
  t33 := Try.underlying63
  a33 := Try.isAgg63
  z33 := Try.sizeOf63
  v33 := Try.zeroValue63 }
def Try.sortedZ_ren : Go.Shelf.Ren := ⟨fun | 6 => 122 | 8 => 143 | 9 => 116 | 11 => 164 | 13 => 120 | 12 => 132 | 23 => 141 | 24 => 142 | 14 => 151 | 15 => 152 | 16 => 153 | 17 => 154 | 18 => 155 | 19 => 156 | 20 => 149 | 21 => 157 | 22 => 158 | 25 => 168 | 26 => 160 | 27 => 161 | 28 => 169 | 29 => 170 | 30 => 121 | 31 => 180 | n => n, fun | 26 => 3 | 28 => 200 | 24 => 34 | 0 => 0 | 3 => 3 | 37 => 91 | 48 => 222 | 50 => 224 | 4 => 4 | 40 => 216 | 39 => 215 | 45 => 28 | 5 => 5 | 9 => 9 | 51 => 234 | 55 => 238 | 57 => 245 | 58 => 246 | 33 => 63 | n => n, fun | n => n⟩
theorem Try.sortedZ : Go.Proofs.SlLaysZI.n6 Try.prog Try.sortedZ_ren := {
  mixed := by kernel_rfl
  f6 := ⟨Try.f122.name, by decide, Try.func122.trans (congrArg some (by kernel_rfl))⟩
  f8 := ⟨Try.f143.name, by decide, Try.func143.trans (congrArg some (by kernel_rfl))⟩
  f11 := ⟨Try.f164.name, by decide, Try.func164.trans (congrArg some (by kernel_rfl))⟩
  t0 := Try.underlying0
  a0 := Try.isAgg0
  z0 := Try.sizeOf0
  v0 := Try.zeroValue0
  t24 := Try.underlying34
  a24 := Try.isAgg34
  z24 := Try.sizeOf34
  v24 := Try.zeroValue34
  t26 := Try.underlying3
  a26 := Try.isAgg3
  z26 := Try.sizeOf3
  v26 := Try.zeroValue3
  t28 := Try.underlying200
  a28 := Try.isAgg200
  z28 := Try.sizeOf200
  v28 := Try.zeroValue200
  i26 := by kernel_rfl }
end Go.Proofs
namespace Go.Proofs.Ytakmcbakogjeeaa.Pt
open Go Go.RowKit Go.Maps Go.Sort Go.Shelf Go.Proofs.Ytakmcbakogjeeaa.Rm
open Go.Proofs.YtakmcbakogjeeaaW.PrintWords Go.Proofs.YtakmcbakogjeeaaW.PrintLast Go.Proofs.YtakmcbakogjeeaaW.PrintMore
theorem sortsZ (m : Nat) : AnyZI.SortsIn Try.prog Try.sortedZ_ren Fence.wide m :=
  ⟨fun blk off cap ss W hH hblk hsz => callsIn_wide.2 (Try.slices_Sort_int blk off cap ss W hH hblk hsz),
   fun p cap W => callsIn_wide.2 (Try.slices_Sort_int_none p cap W)⟩
theorem intKeys_mapD : ∀ l : KV, intKeys (mapD l) = l.map (·.1)
  | [] => rfl
  | x :: r => by
    have := intKeys_mapD r
    unfold intKeys mapD at this ⊢
    simp only [List.map_cons] at this ⊢
    rw [this]
    rfl
theorem sorted_is {l ss : List Int} (hp : ss.Perm l) (hl : l.Pairwise (fun x y => x < y)) : ss.mergeSort (fun x y => decide (x ≤ y)) = l := by
  have h1 : (ss.mergeSort (fun x y => decide (x ≤ y))).Pairwise (fun x y => decide (x ≤ y) = true) := List.pairwise_mergeSort (fun a b c h1 h2 => by simp at *; omega) (fun a b => by simp; omega) ss
  have h2 : l.Pairwise (fun x y => decide (x ≤ y) = true) := hl.imp (fun h => by simp; omega)
  exact List.Perm.eq_of_pairwise (le := fun x y => decide (x ≤ y) = true) (fun a b _ _ h1 h2 => by simp at h1 h2; omega) h1 h2 ((List.mergeSort_perm ss _).trans hp)
set_option maxRecDepth 100000 in
set_option maxHeartbeats 1000000 in
theorem addrs_s {W : World} {b p m n : Nat} {used : Int} {K : List Ent} (h : PtAt W b p m n used K) (hmax : K.length ≤ maxLen) (hbytes : K.length * 8 ≤ 140737488355328) :
    Calls Try.prog 96 #[.pointer (some ⟨p, 0, none⟩)] W fun e w' => ∃ v, e = .returned v ∧ w'.ownsRow W.heap.size 3 1 v K.length ((K.map (·.a)).map encZ) ∧ Below W.heap.size W w' := by
  have c0 := h.c.1
  have hown := h.mp
  have hbl := hown.lt
  have hkeys := h.keys
  have hsz : Maps.size (mapD (kvs K)) = K.length := by rw [mapD_size]; simp [kvs]
  have hik : intKeys (mapD (kvs K)) = K.map (·.a) := by rw [intKeys_mapD]; simp [kvs]
  have hinc : (K.map (·.a)).Pairwise (fun x y => x < y) := by rw [List.pairwise_map]; exact hkeys
  have hseq : SeqGives Fence.wide 2 Try.prog 144 #[.pointer (some ⟨W.heap.size, 0, none⟩)] encZ (fun ss => ss.Perm (intKeys (mapD (kvs K)))) (Maps.size (mapD (kvs K))) (W.alloc (.cells #[.map (some m)] 106)) :=
    AnyZI.keys_gives (ρ := Try.keysZ_ren) { Try.keysZ with } Fence.wide _ trivial rfl (by omega) W.heap.size m n _ _ (by simp) (by simp) (by
      obtain ⟨es, clock, hb, Ft, hs, hD⟩ := hown
      exact ⟨es, clock, (Below.heap_alloc _ _ m hbl).trans hb, Ft, hs, hD⟩)
  refine (callsIn_wide (n := 6)).1 ?_
  have cK : ∀ mb W, CallsIn Fence.wide 5 Try.prog 123 #[.map mb] W fun e w' => e = .returned (.func (.func 144) #[] #[.pointer (some ⟨W.heap.size, 0, none⟩)]) ∧ w' = W.alloc (.cells #[.map mb] 106) := fun mb W => AnyZI.keys_in Try.keysZ Fence.wide 5 trivial rfl mb W
  have cS := AnyZI.sorted_in Try.sortedZ Fence.wide 5 trivial trivial trivial trivial rfl (by omega) (sortsZ _) (enters_of Try.func116 (by kernel_rfl) rfl) 144 #[.pointer (some ⟨W.heap.size, 0, none⟩)] trivial (enters_of Try.func144 (by kernel_rfl) rfl) _ _ (by rw [hsz]; exact hmax) (by rw [hsz]; exact hbytes) _ hseq
  change CallsIn _ _ Try.prog 122 _ _ _ at cS
  have hfK : Fence.wide.fn 123 := trivial
  have hfS : Fence.wide.fn 122 := trivial
  have HB := Aside0.mk hbl
  clear h hown hbl hkeys hseq
  refine callsIn_of_wp Try.func96 rfl trivial ?_ rfl
  simp only [Try.ntmps96, List.size_toArray, List.length_cons, List.length_nil, Nat.reduceAdd, Nat.reduceSub, Array.replicate_succ, Array.replicate_zero, List.push_toArray, List.append_toArray, List.nil_append, List.cons_append]
  gi_wp2_with (first
    | (gi_at_call 123; refine (cK _ _).mono ?_; rintro e w' ⟨rfl, rfl⟩)
    | (gi_at_call 122; refine cS.mono ?_; rintro e w' ⟨v, ss, rfl, hS, hrow, hnil, hb⟩))
  go_ret
  rw [hik] at hS
  have hl : ss.length = K.length := by rw [hS.length_eq, List.length_map]
  rw [sorted_is hS hinc, hl] at hrow
  exact ⟨v, rfl, ownsRow_base_a hrow (by simp), ((Below.refl _ W).alloc (Nat.le_refl _) _).trans (hb.mono (by simp))⟩
end Go.Proofs.Ytakmcbakogjeeaa.Pt
