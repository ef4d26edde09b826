/- InboxPlays: the calls, one by one; no condition. -/
import Derived.Test.YtakmcbakogjeeaaIbPl
set_option linter.unusedVariables false
set_option linter.unusedSimpArgs false
namespace Go.Proofs.Ytakmcbakogjeeaa.Ib
open Go Go.RowKit Go.Maps Go.Proofs.Ytakmcbakogjeeaa.Rm Go.Proofs.Ytakmcbakogjeeaa.Rw
open Go.Proofs.YtakmcbakogjeeaaW.PrintWords Go.Proofs.YtakmcbakogjeeaaW.PrintLast Go.Proofs.YtakmcbakogjeeaaW.PrintMore
variable {w W W' : World} {b g m n r ab : Nat} {h h2 h0 : Hd} {P P0 : List Pc} {kv : KV} {L : List By} {D : Nat → Prop} {cs : Array Value}
/-! What a Put, an End, a Grow leave. -/
def pH (h : Hd) (off : Int) (len : Nat) (fin : Bool) : Hd := if putV h off len fin = 0 then putH h off len fin else h
def pP (h : Hd) (P : List Pc) (off : Int) (data : List Int) (fin : Bool) : List Pc := if putV h off data.length fin = 0 then fill data off P (max off h.place) (off + data.length) else P
def pL (h : Hd) (L : List By) (off : Int) (data : List Int) (fin : Bool) : List By := if putV h off data.length fin = 0 then putB h.place off data L else L
theorem putV_zero {off : Int} {len : Nat} {fin : Bool} (hv : putV h off len fin = 0) : 0 ≤ off ∧ off ≤ 4611686018427387903 - len ∧ endsV h (off + len) fin = 0 := by
  unfold putV at hv
  by_cases hb : off < 0 ∨ off > 4611686018427387903 - len
  · rw [if_pos hb] at hv; exact absurd hv (by decide)
  · rw [if_neg hb] at hv; exact ⟨by omega, by omega, hv⟩
theorem p_sync (x : PlIn h P) (off : Int) (data : List Int) (fin : Bool) : PlIn (pH h off data.length fin) (pP h P off data fin) ∧ flat (pP h P off data fin) = pL h (flat P) off data fin := by
  unfold pH pP pL
  by_cases hv : putV h off data.length fin = 0
  · rw [if_pos hv, if_pos hv, if_pos hv]
    obtain ⟨a1, a2, a3⟩ := putV_zero hv
    exact x.put a1 a2 a3
  · rw [if_neg hv, if_neg hv, if_neg hv]
    exact ⟨x, rfl⟩
theorem c_put (x : PlS w g m r ab cs D h P h2 L W) (i : PlIn h P) (off : Int) (A : Option Addr) (data : List Int) (cap : Nat) (fin : Bool) (ho0 : -9223372036854775808 ≤ off) (ho1 : off ≤ 9223372036854775807) (hl : data.length ≤ 140737488355328) (hcap : data.length ≤ cap)
    (hA : 0 < data.length → ∃ ad, A = some ad ∧ ad.block ≠ g ∧ ad.block ≠ m ∧ ad.block < W.heap.size ∧ ∀ i u, data[i]? = some u → W.cell? (ad.add i) = some (.int .u8 u)) (hD : ∀ k, W.heap.size ≤ k → D k) :
    Calls Try.prog 19 #[.pointer (some ⟨g, 0, none⟩), .int .i64 off, .slice A data.length cap, .bool fin] W fun e w' => e = .returned (.int .i64 (putV h off data.length fin)) ∧ PlS w g m r ab cs D (pH h off data.length fin) (pP h P off data fin) h2 L w' ∧ RowsStay W w' := by
  obtain ⟨kv, h1, h3⟩ := x.box
  obtain ⟨q1, q2, q3, q4, q5, q6⟩ := i.few
  unfold pH pP
  by_cases hv : putV h off data.length fin = 0
  · obtain ⟨a1, a2, a3⟩ := putV_zero hv
    rw [hv, if_pos rfl, if_pos rfl]
    refine (put_s h1 h3 i.ok (by have := h3.length; omega) i.p1 q5 off A data.length cap fin a1 a2 hl a3 i.p0 i.q0 i.q1 x.bel.size hD hcap data rfl hA).mono ?_
    rintro e w' ⟨rfl, kv', hx, hp, hf, hb⟩
    exact ⟨rfl, x.afterG hx hp hb hf⟩
  · rw [if_neg hv, if_neg hv]
    unfold putV at hv ⊢
    by_cases hb : off < 0 ∨ off > 4611686018427387903 - data.length
    · rw [if_pos hb]
      refine (put_arg h1 off A data.length cap fin hb ho0 ho1 hl x.bel.size).mono ?_
      rintro e w' ⟨rfl, hbl⟩
      exact ⟨rfl, x.below hbl⟩
    · rw [if_neg hb] at hv ⊢
      refine (put_bad h1 off A data.length cap fin (by omega) (by omega) hl _ rfl hv x.bel.size).mono ?_
      rintro e w' ⟨rfl, hbl⟩
      exact ⟨rfl, x.below hbl⟩
theorem c_rput (x : PlS w g m r ab cs D h0 P0 h (flat P) W) (i : PlIn h P) (off : Int) (A : Option Addr) (data : List Int) (cap : Nat) (fin : Bool) (ho0 : -9223372036854775808 ≤ off) (ho1 : off ≤ 9223372036854775807) (hl : data.length ≤ 140737488355328) (hcap : data.length ≤ cap)
    (hA : 0 < data.length → ∃ ad, A = some ad ∧ ad.block < w.heap.size ∧ ∀ i u, data[i]? = some u → W.cell? (ad.add i) = some (.int .u8 u)) :
    Calls Try.prog 27 #[.pointer (some ⟨r, 0, none⟩), .int .i64 off, .slice A data.length cap, .bool fin] W fun e w' => e = .returned (.int .i64 (putV h off data.length fin)) ∧ PlS w g m r ab cs D h0 P0 (pH h off data.length fin) (pL h (flat P) off data fin) w' ∧ RowsStay W w' := by
  obtain ⟨A', c', h1⟩ := x.rb
  obtain ⟨q1, q2, q3, q4, q5, q6⟩ := i.few
  unfold pH pL
  by_cases hv : putV h off data.length fin = 0
  · rw [hv, if_pos rfl, if_pos rfl]
    refine (rPut_s h1 (flat_up i.ok) q6 i.l1 i.p0 x.bel.size off A cap data hcap fin hl hv hA).mono ?_
    rintro e w' ⟨rfl, A2, c2, hx, hf⟩
    exact ⟨rfl, x.afterR hx hf⟩
  · rw [if_neg hv, if_neg hv]
    refine (rPut_bad h1 off A data.length cap fin ho0 ho1 hl hv).mono ?_
    rintro e w' ⟨rfl, rfl⟩
    exact ⟨rfl, x, fun base v n us ho => ho⟩
theorem c_read (x : PlS w g m r ab cs D h P h2 L W) (i : PlIn h P) (N : Int) (hN0 : -9223372036854775808 ≤ N) (hN1 : N ≤ 9223372036854775807) :
    Calls Try.prog 20 #[.pointer (some ⟨g, 0, none⟩), .int .i64 N] W fun e w' => ∃ A c, e = .returned (.tuple #[.slice A (readP h.place N P).1.length c, .bool (h.known && ((readP h.place N P).2.1 == h.final))]) ∧
      w'.ownsRow W.heap.size 5 1 (.slice A (readP h.place N P).1.length c) (readP h.place N P).1.length ((readP h.place N P).1.map (Value.int .u8)) ∧
      PlS w g m r ab cs (fun k => D k ∧ k < W.heap.size) { h with place := (readP h.place N P).2.1, limit := max h.limit ((readP h.place N P).2.1 + h.room) } (readP h.place N P).2.2 h2 L w' ∧ RowsStay W w' := by
  obtain ⟨kv, h1, h3⟩ := x.box
  obtain ⟨q1, q2, q3, q4, q5, q6⟩ := i.few
  refine (read_s h1 h3 i.ok i.p0 i.p1 q5 q2 q1 i.r0 i.r1 (by have := i.l0; have := i.p0; omega) (by have := i.l1; have := i.p1; omega) x.bel.size N hN0 hN1).mono ?_
  rintro e w' ⟨A, c, kv', rfl, ho, hx, hp, hf⟩
  exact ⟨A, c, rfl, ho, x.afterG hx hp (hf.bel h1.hm h1.hg x.bel.size) (fun k hk e1 e2 => hf.block k hk e2 e1)⟩
theorem c_rread (x : PlS w g m r ab cs D h0 P0 h (flat P) W) (i : PlIn h P) (N : Int) (K : Nat) (hK : (K : Int) = max 0 (min N (readyB h.place (flat P)))) :
    Calls Try.prog 28 #[.pointer (some ⟨r, 0, none⟩), .int .i64 N] W fun e w' => ∃ Ao co, e = .returned (.tuple #[.slice Ao K co, .bool (h.known && (h.place + K == h.final))]) ∧
      w'.ownsRow W.heap.size 5 1 (.slice Ao K co) K (((flat P).take K).map (fun z => Value.int .u8 z.2)) ∧
      PlS w g m r ab cs D h0 P0 { h with place := h.place + K, limit := max h.limit (h.place + K + h.room) } ((flat P).drop K) w' ∧ RowsStay W w' := by
  obtain ⟨A', c', h1⟩ := x.rb
  obtain ⟨q1, q2, q3, q4, q5, q6⟩ := i.few
  refine (rRead_s h1 q3 i.big i.p0 i.p1 i.r0 i.r1 x.bel.size N K hK).mono ?_
  rintro e w' ⟨Ao, co, A2, c2, rfl, ho, hx, _, hf⟩
  exact ⟨Ao, co, rfl, ho, x.afterR hx hf⟩
theorem c_end (x : PlS w g m r ab cs D h P h2 L W) (f : Int) : Calls Try.prog 16 #[.pointer (some ⟨g, 0, none⟩), .int .i64 f] W fun e w' => e = .returned (.int .i64 (endV h f)) ∧ PlS w g m r ab cs D (endH h f) P h2 L w' ∧ RowsStay W w' := by
  obtain ⟨kv, h1, h3⟩ := x.box
  refine (end_f h1 f x.bel.size).mono ?_
  rintro e w' ⟨rfl, hx, hf, hb⟩
  exact ⟨rfl, x.afterG hx (h3.move (fun k c hk => hf k (x.types.2.2.2.2.2 k c hk).1)) hb (fun k _ h1 _ => hf k h1)⟩
theorem c_rend (x : PlS w g m r ab cs D h0 P0 h L W) (f : Int) : Calls Try.prog 29 #[.pointer (some ⟨r, 0, none⟩), .int .i64 f] W fun e w' => e = .returned (.int .i64 (endV h f)) ∧ PlS w g m r ab cs D h0 P0 (endH h f) L w' ∧ RowsStay W w' := by
  obtain ⟨A', c', h1⟩ := x.rb
  refine (rend_s h1 f).mono ?_
  rintro e w' ⟨rfl, hx, hf⟩
  exact ⟨rfl, x.afterR hx hf⟩
/-- Grow's answer, and what it leaves. -/
def growV (room : Int) : Int := if room < 0 ∨ 1048576 < room then 2 else 0
def growH (h : Hd) (room : Int) : Hd := if room < 0 ∨ 1048576 < room then h else { h with room := room, limit := max h.limit (h.place + room) }
theorem grow_in (i : PlIn h P) (room : Int) : PlIn (growH h room) P := by
  unfold growH
  split
  · exact i
  · exact i.grow (by omega) (by omega)
theorem c_grow (x : PlS w g m r ab cs D h P h2 L W) (i : PlIn h P) (room : Int) (hr0 : -9223372036854775808 ≤ room) (hr1 : room ≤ 9223372036854775807) : Calls Try.prog 23 #[.pointer (some ⟨g, 0, none⟩), .int .i64 room] W fun e w' => e = .returned (.int .i64 (growV room)) ∧ PlS w g m r ab cs D (growH h room) P h2 L w' ∧ RowsStay W w' := by
  obtain ⟨kv, h1, h3⟩ := x.box
  unfold growV growH
  by_cases hb : room < 0 ∨ 1048576 < room
  · rw [if_pos hb, if_pos hb]
    refine (grow_bad h1 room hb hr0 hr1).mono ?_
    rintro e w' ⟨rfl, rfl⟩
    exact ⟨rfl, x, fun base v n us ho => ho⟩
  · rw [if_neg hb, if_neg hb]
    refine (grow_s h1 room (by omega) (by omega) i.p0 i.p1 (by have := i.l0; have := i.p0; omega) (by have := i.l1; have := i.p1; omega)).mono ?_
    rintro e w' ⟨rfl, hx, hf, hbl⟩
    exact ⟨rfl, x.afterG hx (h3.move (fun k c hk => hf k (x.types.2.2.2.2.2 k c hk).1)) hbl (fun k _ h1 _ => hf k h1)⟩
theorem c_rgrow (x : PlS w g m r ab cs D h0 P0 h (flat P) W) (i : PlIn h P) (room : Int) : Calls Try.prog 30 #[.pointer (some ⟨r, 0, none⟩), .int .i64 room] W fun e w' => e = .returned (.int .i64 (growV room)) ∧ PlS w g m r ab cs D h0 P0 (growH h room) (flat P) w' ∧ RowsStay W w' := by
  obtain ⟨A', c', h1⟩ := x.rb
  unfold growV growH
  by_cases hb : room < 0 ∨ 1048576 < room
  · rw [if_pos hb, if_pos hb]
    refine (rgrow_bad h1 room hb).mono ?_
    rintro e w' ⟨rfl, rfl⟩
    exact ⟨rfl, x, fun base v n us ho => ho⟩
  · rw [if_neg hb, if_neg hb]
    refine (rgrow_s h1 room (by omega) (by omega) i.p0 i.p1).mono ?_
    rintro e w' ⟨rfl, hx, hf⟩
    exact ⟨rfl, x.afterR hx hf⟩
/-! What is told. -/
theorem c_final (x : PlS w g m r ab cs D h P h2 L W) : Calls Try.prog 17 #[.pointer (some ⟨g, 0, none⟩)] W fun e w' => e = .returned (.tuple #[.int .i64 (if h.known then h.final else 0), .bool h.known]) ∧ PlS w g m r ab cs D h P h2 L w' := by
  obtain ⟨kv, h1, h3⟩ := x.box
  refine (final_s h1).mono ?_
  rintro e w' ⟨rfl, rfl⟩
  exact ⟨rfl, x⟩
theorem c_ready (x : PlS w g m r ab cs D h P h2 L W) (i : PlIn h P) : Calls Try.prog 24 #[.pointer (some ⟨g, 0, none⟩)] W fun e w' => e = .returned (.int .i64 (readyB h.place (flat P))) ∧ PlS w g m r ab cs D h P h2 L w' := by
  obtain ⟨kv, h1, h3⟩ := x.box
  obtain ⟨q1, q2, q3, q4, q5, q6⟩ := i.few
  refine (ready_s h1 h3 i.ok i.p0 i.p1 q5).mono ?_
  rintro e w' ⟨rfl, rfl⟩
  exact ⟨by rw [ready_is i.ok], x⟩
theorem c_rready (x : PlS w g m r ab cs D h0 P0 h (flat P) W) (i : PlIn h P) : Calls Try.prog 31 #[.pointer (some ⟨r, 0, none⟩)] W fun e w' => e = .returned (.int .i64 (readyB h.place (flat P))) ∧ PlS w g m r ab cs D h0 P0 h (flat P) w' := by
  obtain ⟨A', c', h1⟩ := x.rb
  obtain ⟨q1, q2, q3, q4, q5, q6⟩ := i.few
  refine (rready_s h1 i.p0 i.p1 q3).mono ?_
  rintro e w' ⟨rfl, nd, rfl⟩
  exact ⟨rfl, (x.below (bl_drewN nd)).1⟩
theorem c_limit (x : PlS w g m r ab cs D h P h2 L W) : Calls Try.prog 22 #[.pointer (some ⟨g, 0, none⟩)] W fun e w' => e = .returned (.int .i64 h.limit) ∧ PlS w g m r ab cs D h P h2 L w' := by
  obtain ⟨kv, h1, h3⟩ := x.box
  refine (limit_s h1).mono ?_
  rintro e w' ⟨rfl, rfl⟩
  exact ⟨rfl, x⟩
theorem c_reach (x : PlS w g m r ab cs D h P h2 L W) : Calls Try.prog 18 #[.pointer (some ⟨g, 0, none⟩)] W fun e w' => e = .returned (.int .i64 h.reach) ∧ PlS w g m r ab cs D h P h2 L w' := by
  obtain ⟨kv, h1, h3⟩ := x.box
  refine (reach_s h1).mono ?_
  rintro e w' ⟨rfl, rfl⟩
  exact ⟨rfl, x⟩
theorem c_held (x : PlS w g m r ab cs D h P h2 L W) (i : PlIn h P) : Calls Try.prog 21 #[.pointer (some ⟨g, 0, none⟩)] W fun e w' => e = .returned (.int .i64 ((flat P).length : Nat)) ∧ PlS w g m r ab cs D h P h2 L w' := by
  obtain ⟨kv, h1, h3⟩ := x.box
  obtain ⟨q1, q2, q3, q4, q5, q6⟩ := i.few
  refine (held_s h1 h3 (by omega)).mono ?_
  rintro e w' ⟨rfl, hb⟩
  exact ⟨by rw [held_is], (x.below hb).1⟩
/-- The cells that the law reads itself. -/
theorem PlS.rc (x : PlS w g m r ab cs D h P h2 L W) : ∃ A c, W.cell? ⟨r, 2, none⟩ = some (.int .i64 h2.limit) ∧ W.cell? ⟨r, 3, none⟩ = some (.int .i64 h2.reach) ∧ W.cell? ⟨r, 4, none⟩ = some (.int .i64 h2.final) ∧ W.cell? ⟨r, 5, none⟩ = some (.bool h2.known) ∧ W.cell? ⟨r, 6, none⟩ = some (.slice A L.length c) := by
  obtain ⟨A, c, h1⟩ := x.rb
  obtain ⟨c0, c1, c2, c3, c4, c5, c6⟩ := h1.cl
  exact ⟨A, c, c2, c3, c4, c5, c6⟩
end Go.Proofs.Ytakmcbakogjeeaa.Ib
