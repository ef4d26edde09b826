/- A map of pointers: what a look-up with ok tells, when the map's datum is known. -/
import Derived.Maps.Own
set_option linter.unusedVariables false
set_option linter.unusedSimpArgs false
namespace Go.Proofs.Ytpilpgdlgkndmaa.Pm
open Go Go.Maps Go.ChangeMaps Go.MapKept
open Go.WideElems (Fit rd rg pl rd_val elemAt)
/-- A pointer to a block's first cell reads as the block's number. -/
def ptrElem (v : Value) : Option (DataW Unit × List MemPlace) :=
  match v with
  | .pointer (some ⟨b, 0, none⟩) => some (.lit (.int .i64 b), [])
  | _ => none
theorem ptrElem_inv {v : Value} {d : DataW Unit} {ps : List MemPlace} {g : Nat} (h : ptrElem v = some (d, ps)) (hd : d = .lit (.int .i64 g)) : v = .pointer (some ⟨g, 0, none⟩) := by
  unfold ptrElem at h
  split at h
  · rename_i b
    simp only [Option.some.injEq, Prod.mk.injEq] at h
    obtain ⟨h, _⟩ := h
    subst h
    injection hd with hd
    injection hd with _ hd
    have : b = g := by omega
    rw [this]
  · exact absurd h (by simp)
variable {w : World} {P : Program} {k e t : TypeId} {b n : Nat} {D : DataW Unit}
theorem look_hit (h : w.ownsMap P k ptrElem b n D) (K : Keyed P k) (ht : P.underlying t = some (.map k e)) {z : Value} (hz : (zeroValue e).run P w = .ok z w) {key : Value} {kl : Lit} (hkey : keyOf P k key = some kl) (g : Nat) (hat : ∀ zd, D.atKey kl zd = .lit (.int .i64 g)) :
    (Instr.lookup t (.map (some b)) key true).run P w = .ok (.tuple #[.pointer (some ⟨g, 0, none⟩), .bool true]) w := by
  obtain ⟨es, clock, hb, F, _, rfl⟩ := h
  rcases Maps.fit_look true K ht hz hb F hkey with ⟨_, _, hz0⟩ | ⟨e0, y, _, _, hrun, hRv, hy, _⟩
  · have h1 := hz0 (.lit (.int .i64 (g + 1)))
    rw [hat] at h1
    injection h1 with h1
    injection h1 with _ h1
    omega
  · obtain ⟨y1, y2⟩ := y
    have h1 := hy (.lit (.int .i64 0))
    rw [hat] at h1
    have := ptrElem_inv hRv h1.symm
    rw [this] at hrun
    simpa using hrun
theorem look_miss (h : w.ownsMap P k ptrElem b n D) (K : Keyed P k) (ht : P.underlying t = some (.map k e)) {z : Value} (hz : (zeroValue e).run P w = .ok z w) {key : Value} {kl : Lit} (hkey : keyOf P k key = some kl) (hat : ∀ zd, D.atKey kl zd = zd) :
    (Instr.lookup t (.map (some b)) key true).run P w = .ok (.tuple #[z, .bool false]) w := by
  obtain ⟨es, clock, hb, F, _, rfl⟩ := h
  rcases Maps.fit_look true K ht hz hb F hkey with ⟨hrun, _, _⟩ | ⟨e0, y, _, _, hrun, hRv, hy, _⟩
  · simpa using hrun
  · have h1 := hy (.lit (.int .i64 0))
    have h2 := hy (.lit (.int .i64 1))
    rw [hat] at h1 h2
    rw [← h1] at h2
    injection h2 with h2
    injection h2 with _ h2
    omega
/-- The datum of known keys. -/
def D1 (a : Nat) : DataW Unit := (DataW.map []).put (.int .i64 0) (.lit (.int .i64 a))
def D2 (a b : Nat) : DataW Unit := (D1 a).put (.int .i64 1) (.lit (.int .i64 b))
def D3 (a b c : Nat) : DataW Unit := (D2 a b).put (.int .i64 2) (.lit (.int .i64 c))
theorem d1_0 (a : Nat) (z : DataW Unit) : (D1 a).atKey (.int .i64 0) z = .lit (.int .i64 a) := by rfl
theorem d1_1 (a : Nat) (z : DataW Unit) : (D1 a).atKey (.int .i64 1) z = z := by rfl
theorem d2_2 (a b : Nat) (z : DataW Unit) : (D2 a b).atKey (.int .i64 2) z = z := by rfl
theorem d3_0 (a b c : Nat) (z : DataW Unit) : (D3 a b c).atKey (.int .i64 0) z = .lit (.int .i64 a) := by rfl
theorem d3_1 (a b c : Nat) (z : DataW Unit) : (D3 a b c).atKey (.int .i64 1) z = .lit (.int .i64 b) := by rfl
theorem d3_2 (a b c : Nat) (z : DataW Unit) : (D3 a b c).atKey (.int .i64 2) z = .lit (.int .i64 c) := by rfl
theorem d3_3 (a b c : Nat) (z : DataW Unit) : (D3 a b c).atKey (.int .i64 3) z = z := by rfl
theorem d3_9 (a b c : Nat) (z : DataW Unit) : (D3 a b c).atKey (.int .i64 9) z = z := by rfl
end Go.Proofs.Ytpilpgdlgkndmaa.Pm
