/- Boxes (layer 6): Put in general, both; no condition. -/
import Derived.Test.YtakmcbakogjeeaaIb5t
import Derived.Test.YtakmcbakogjeeaaIb5f
set_option linter.unusedVariables false
set_option linter.unusedSimpArgs false
namespace Go.Proofs.Ytakmcbakogjeeaa.Ib
open Go Go.RowKit Go.Maps Go.Proofs.Ytakmcbakogjeeaa.Rm
open Go.Proofs.YtakmcbakogjeeaaW.PrintWords Go.Proofs.YtakmcbakogjeeaaW.PrintLast Go.Proofs.YtakmcbakogjeeaaW.PrintMore
variable {W W' W2 : World} {b g m n : Nat} {D : Nat → Prop} {h : Hd} {kv : KV}
/-- A piece taken. -/
theorem put_s {P : List Pc} (x : BoxAt W b g m n h kv) (hP : Pcs W D kv P) (hok : OkP h.place P) (hkl : kv.length ≤ 1048576) (hpl : h.place ≤ 4611686018427387903) (hends : ∀ p ∈ P, p.1 + p.2.length ≤ 4611686018427387903) (off : Int) (A : Option Addr) (len cap : Nat) (fin : Bool) (h0 : 0 ≤ off) (h1 : off ≤ 4611686018427387903 - len) (hl : len ≤ 140737488355328) (hv : endsV h (off + len) fin = 0) (hp0 : 0 ≤ h.place) (hr0 : 0 ≤ h.reach) (hr1 : h.reach ≤ 4611686018427387903) (hbw : b ≤ W.heap.size) (hD : ∀ k, W.heap.size ≤ k → D k)
    (hcap : len ≤ cap) (xs : List Int) (hxs : xs.length = len) (hA : 0 < len → ∃ ad, A = some ad ∧ ad.block ≠ g ∧ ad.block ≠ m ∧ ad.block < W.heap.size ∧ ∀ i u, xs[i]? = some u → W.cell? (ad.add i) = some (.int .u8 u)) :
    Calls Try.prog 19 #[.pointer (some ⟨g, 0, none⟩), .int .i64 off, .slice A len cap, .bool fin] W fun e w' => e = .returned (.int .i64 0) ∧ ∃ kv', BoxAt w' b g m kv'.length (putH h off len fin) kv' ∧ Pcs w' D kv' (fill xs off P (max off h.place) (off + len)) ∧ (∀ k, k < W.heap.size → k ≠ g → k ≠ m → w'.heap[k]? = W.heap[k]?) ∧ Below b W w' := by
  cases fin with
  | true => exact put_t x hP hok hkl hpl hends off A len cap true h0 h1 hl hv hp0 hr0 hr1 hbw hD hcap xs hxs hA rfl
  | false => exact put_f x hP hok hkl hpl hends off A len cap false h0 h1 hl hv hp0 hr0 hr1 hbw hD hcap xs hxs hA rfl
end Go.Proofs.Ytakmcbakogjeeaa.Ib
