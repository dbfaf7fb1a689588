/-
  What the walks through the program rest on: values, states, steps, calls (AbOne, AbTwo, AbThree, AbFour, AbCan, AbFive, AbSix, AbSeven, AbEight, AbNine, AbTen, AbEleven, AbTwelve, AbThirteen, AbOwn, AbMore).
-/
import Derived.WalkKit
import Derived.RangeFuncOwn
import Derived.Lib.Hide
import Derived.Laws.AppendOwn
import Derived.Tactics
import Derived.OrdersHeld
import Derived.OrdersIn
import Derived.TacticsIn
import Derived.RangeFuncLeaves
import Derived.RangeFuncCalls
import Derived.Deep.MidRow
import Derived.KernelRfl
import Derived.Laws.CopyRow
import Derived.Laws.CopyOwn
import Derived.Great.BuildSlice
import Derived.Laws.OwnMore
import Derived.Laws.Small
namespace Go.AB
open Go Go.RowKit

/-- What may be done with a slice: nothing but reading; it has no room (and is nil); the named object is its row. -/
inductive Tok where
 | none
 | zero
 | nil
 | tip (n : Nat)

/-- What is known of a value. -/
inductive C where
 | v (x : Value)
 | list (rows : List (List C)) (tok : Tok)
 | elem (cs : List C)
 | box (n ver off : Nat)
 | arr (n len : Nat)
 | own (n ver len : Nat)
 | fn (f : Fn) (caps : List C)
 | map (n : Nat)
 | agg (cs : List C)
 | tup (cs : List C)
 | any

def C.one : C → Bool
 | .agg _ | .tup _ | .any => false
 | _ => true

def loK : IntKind → Int
 | .i8 => -128 | .i16 => -32768 | .i32 => -2147483648 | .i64 => -9223372036854775808 | _ => 0
def hiK : IntKind → Int
 | .i8 => 127 | .i16 => 32767 | .i32 => 2147483647 | .i64 => 9223372036854775807 | .u8 => 255 | .u16 => 65535 | .u32 => 4294967295 | .u64 => 18446744073709551615
/-- A value of one cell that fits its kind. -/
def okV : Value → Bool
 | .int k n => decide (loK k ≤ n) && decide (n ≤ hiK k)
 | .string s => decide (s.size ≤ 9223372036854775807)
 | .agg _ | .tuple _ => false
 | _ => true
theorem vx {v : Value} (h : okV v = true) : v.oneCell' = true := by cases v <;> first | rfl | cases h
theorem okV_int {k : IntKind} {n : Int} : okV (.int k n) = true ↔ loK k ≤ n ∧ n ≤ hiK k := by
 unfold okV
 rw [Bool.and_eq_true]
 exact ⟨fun h => ⟨of_decide_eq_true h.1, of_decide_eq_true h.2⟩, fun h => ⟨decide_eq_true h.1, decide_eq_true h.2⟩⟩
theorem jf {n : Int} (h : -9223372036854775808 ≤ n ∧ n ≤ 9223372036854775807) : okV (.int .i64 n) = true := okV_int.2 h
theorem n7 {n : Int} (h : okV (.int .i64 n) = true) : -9223372036854775808 ≤ n ∧ n ≤ 9223372036854775807 := okV_int.1 h
theorem sa {n : Int} (h : 0 ≤ n ∧ n ≤ 255) : okV (.int .u8 n) = true := okV_int.2 h
theorem okV_str {s : ByteArray} : okV (.string s) = true ↔ s.size ≤ 9223372036854775807 := by
 unfold okV
 exact ⟨fun h => of_decide_eq_true h, fun h => decide_eq_true h⟩
theorem vw (k : IntKind) (n : Int) : okV (.int k (k.wrap n)) = true := by
 rw [okV_int]
 cases k <;> simp only [IntKind.wrap, IntKind.bits, IntKind.signed, loK, hiK] <;> simp <;> (try split) <;> omega

/-- F: where the frame's own blocks begin. Where the call's own blocks begin; what is laid for good (of each block so many cells); what the named objects are: version, writes, value. -/
structure Env where
 B : Nat
 L : Nat → Nat
 T : Nat → Option (Nat × Nat × Value)
 nx : Nat
 F : Nat

def blk : Value → Option Nat
 | .pointer (some a) => some a.block
 | .slice (some a) _ _ => some a.block
 | .map (some r) => some r
 | _ => none

/-- So many cells lie there for good. -/
def Laid (E : Env) (w : World) (a : Option Addr) (n : Nat) (us : Nat → Value) : Prop :=
 n = 0 ∨ ∃ b off, a = some ⟨b, off, none⟩ ∧ off + n ≤ E.L b ∧ ∀ j, j < n → w.cell? ⟨b, off + j, none⟩ = some (us j)

inductive R (E : Env) (w : World) : C → Value → Prop
 | v {x : Value} : okV x = true → R E w (.v x) x
 | list {rows : List (List C)} {tok : Tok} {a : Option Addr} {cap sz : Nat} {us : Nat → Value} : rows.length ≤ cap → cap ≤ maxLen → 1 ≤ sz → (∀ r ∈ rows, r.length = sz) → (∀ r ∈ rows, ∀ c ∈ r, c.one = true) →
   Laid E w a rows.flatten.length us → (∀ j c, rows.flatten[j]? = some c → R E w c (us j)) →
   (tok = .nil → a = none ∧ cap = 0) → (tok = .zero → cap = rows.length) → (∀ n, tok = .tip n → n < E.nx ∧ ∀ ver wv val, E.T n = some (ver, wv, val) → rows.length ≤ ver ∧ (rows.length = ver → val = .slice a rows.length cap)) →
   R E w (.list rows tok) (.slice a rows.length cap)
 | elem {cs : List C} {b off : Nat} {us : Nat → Value} : cs ≠ [] → (∀ c ∈ cs, c.one = true) → Laid E w (some ⟨b, off, none⟩) cs.length us → (∀ j c, cs[j]? = some c → R E w c (us j)) → R E w (.elem cs) (.pointer (some ⟨b, off, none⟩))
 | box {n ver off b : Nat} : n < E.nx → (∀ ver' wv val, E.T n = some (ver', wv, val) → ver ≤ ver' ∧ (ver = ver' → blk val = some b)) → R E w (.box n ver off) (.pointer (some ⟨b, off, none⟩))
 | arr {n len b cap : Nat} : n < E.nx → len ≤ cap → cap ≤ maxLen → (∀ ver' wv val, E.T n = some (ver', wv, val) → 0 ≤ ver' ∧ (0 = ver' → blk val = some b)) → R E w (.arr n len) (.slice (some ⟨b, 0, none⟩) len cap)
 | own {n ver len cap : Nat} {a : Option Addr} : n < E.nx → len ≤ cap → cap ≤ maxLen → (∀ ver' wv val, E.T n = some (ver', wv, val) → ver ≤ ver' ∧ (ver = ver' → ∃ m, len ≤ m ∧ val = .slice a m cap)) → R E w (.own n ver len) (.slice a len cap)
 | fn {f : Fn} {caps : List C} {us : Nat → Value} {vs : Array Value} : vs.size = caps.length → (∀ j c, caps[j]? = some c → R E w c (us j)) → (∀ j, j < caps.length → vs[j]? = some (us j)) → R E w (.fn f caps) (.func f #[] vs)
 | map {n : Nat} {r : Option Nat} : n < E.nx → (∀ ver wv val, E.T n = some (ver, wv, val) → ver = 0 → val = .map r) → R E w (.map n) (.map r)
 | agg {cs : List C} {us : Nat → Value} {vs : Array Value} : vs.size = cs.length → (∀ c ∈ cs, c.one = true) → (∀ j c, cs[j]? = some c → R E w c (us j)) → (∀ j, j < cs.length → vs[j]? = some (us j)) → R E w (.agg cs) (.agg vs)
 | tup {cs : List C} {us : Nat → Value} {vs : Array Value} : vs.size = cs.length → (∀ j c, cs[j]? = some c → R E w c (us j)) → (∀ j, j < cs.length → vs[j]? = some (us j)) → R E w (.tup cs) (.tuple vs)
 | any {x : Value} : R E w .any x

/-- .. of what is no cells; of what came to be laid. -/
structure EvX (E : Env) (w : World) (E' : Env) (w' : World) : Prop where
 F : E'.F = E.F
 lc : ∀ b, E.L b < E'.L b → ∃ v, w'.cell? ⟨b, 0, none⟩ = some v
 oth : ∀ (b : Nat) (o : Obj), w.heap[b]? = some o → (∀ n t, E.T n = some t → blk t.2.2 ≠ some b) → w'.heap[b]? = some o
 ic : ∀ (b : Nat) (o : Obj), w.heap[b]? = some o → ∃ o' : Obj, w'.heap[b]? = some o' ∧ o'.isCells = o.isCells
 nb : ∀ n t' b (o : Obj), E'.T n = some t' → blk t'.2.2 = some b → w.heap[b]? = some o → ∃ t, E.T n = some t ∧ blk t.2.2 = some b
 mv : ∀ n t t' b, n < E.nx → E.T n = some t → E'.T n = some t' → t.1 < t'.1 → blk t'.2.2 = some b → ∃ o : Obj, w'.heap[b]? = some o ∧ o.isCells = true
theorem EvX.refl (E : Env) (w : World) : EvX E w E w :=
 ⟨rfl, fun b h => absurd h (Nat.lt_irrefl _), fun _ _ h _ => h, fun _ o h => ⟨o, h, rfl⟩, fun _ t _ _ h k _ => ⟨t, h, k⟩, fun n t t' b _ h h' hv _ => by rw [h] at h'; cases h'; omega⟩
theorem EvX.trans {E1 E2 E3 : Env} {w1 w2 w3 : World} (h : EvX E1 w1 E2 w2) (k : EvX E2 w2 E3 w3) (hnx : E1.nx ≤ E2.nx) (hTk : ∀ n, n < E2.nx → ∀ ver' wv' val', E3.T n = some (ver', wv', val') → ∃ ver wv val, E2.T n = some (ver, wv, val) ∧ ver ≤ ver' ∧ (ver = ver' → val = val')) (hL : ∀ b, E2.L b ≤ E3.L b) (hc : ∀ b i, i < E2.L b → w3.cell? ⟨b, i, none⟩ = w2.cell? ⟨b, i, none⟩) : EvX E1 w1 E3 w3 := by
 refine ⟨k.F.trans h.F, fun b hb => ?_, fun b o ho hu => ?_, fun b o ho => ?_, fun n t' b o ht hb ho => ?_, fun n t t' b hn h1 h3 hlt hb => ?_⟩
 ·by_cases h2 : E2.L b < E3.L b
  ·exact k.lc b h2
  ·have h3 : E1.L b < E2.L b := by have := hL b; omega
   obtain ⟨v, hv⟩ := h.lc b h3
   exact ⟨v, (hc b 0 (by omega)).trans hv⟩
 ·refine k.oth b o (h.oth b o ho hu) fun n t ht hb => ?_
  obtain ⟨t0, h0, h1⟩ := h.nb n t b o ht hb ho
  exact hu n t0 h0 h1
 ·obtain ⟨o', h1, h2⟩ := h.ic b o ho
  obtain ⟨o2, h3, h4⟩ := k.ic b o' h1
  exact ⟨o2, h3, h4.trans h2⟩
 ·obtain ⟨o', h1, h2⟩ := h.ic b o ho
  obtain ⟨t1, h3, h4⟩ := k.nb n t' b o' ht hb h1
  exact h.nb n t1 b o h3 h4 ho
 ·obtain ⟨v3, x3, y3⟩ := t'
  obtain ⟨v2, x2, y2, h2, q1, q2⟩ := hTk n (Nat.lt_of_lt_of_le hn hnx) _ _ _ h3
  by_cases hv : v2 = v3
  ·have hy := q2 hv
   subst hv; subst hy
   obtain ⟨o2, h4, h5⟩ := h.mv n t _ b hn h1 h2 hlt hb
   obtain ⟨o3, h6, h7⟩ := k.ic b o2 h4
   exact ⟨o3, h6, h7.trans h5⟩
  ·exact k.mv n _ _ b (Nat.lt_of_lt_of_le hn hnx) h2 h3 (by show v2 < v3; omega) hb

/-- What has become of a world: what is laid for good stays; named objects get new versions. -/
structure Ev (E : Env) (w : World) (E' : Env) (w' : World) : Prop where
 below : Below E.B w w'
 B : E'.B = E.B
 L : ∀ b, E.L b ≤ E'.L b
 cell : ∀ b i, i < E.L b → w'.cell? ⟨b, i, none⟩ = w.cell? ⟨b, i, none⟩
 nx : E.nx ≤ E'.nx
 T : ∀ n, n < E.nx → ∀ ver' wv' val', E'.T n = some (ver', wv', val') → ∃ ver wv val, E.T n = some (ver, wv, val) ∧ ver ≤ ver' ∧ (ver = ver' → val = val' ∧ (wv = wv' → ∀ b, blk val = some b → w'.heap[b]? = w.heap[b]?))
 wv : ∀ n ver wv wv' val, E.T n = some (ver, wv, val) → E'.T n = some (ver, wv', val) → n < E.nx → wv ≤ wv'
 x : EvX E w E' w'

theorem Ev.refl (E : Env) (w : World) : Ev E w E w :=
 ⟨Below.refl _ _, rfl, fun _ => Nat.le_refl _, fun _ _ _ => rfl, Nat.le_refl _, fun n _ ver wv val h => ⟨ver, wv, val, h, Nat.le_refl _, fun _ => ⟨rfl, fun _ _ _ => rfl⟩⟩, fun n ver wv wv' val h h' _ => by rw [h] at h'; injection h' with h'; injection h' with _ h'; injection h' with h' _; omega, EvX.refl E w⟩

theorem Ev.trans {E1 E2 E3 : Env} {w1 w2 w3 : World} (h : Ev E1 w1 E2 w2) (k : Ev E2 w2 E3 w3) : Ev E1 w1 E3 w3 := by
 refine ⟨h.below.trans (h.B ▸ k.below), k.B.trans h.B, fun b => Nat.le_trans (h.L b) (k.L b), fun b i hi => (k.cell b i (Nat.lt_of_lt_of_le hi (h.L b))).trans (h.cell b i hi), Nat.le_trans h.nx k.nx, ?_, ?_, h.x.trans k.x h.nx (fun n hn v x y ht => let ⟨a, b, c, h1, h2, h3⟩ := k.T n hn v x y ht; ⟨a, b, c, h1, h2, fun e => (h3 e).1⟩) k.L k.cell⟩
 ·intro n hn v3 wv3 val3 h3
  obtain ⟨v2, wv2, val2, h2, hv2, e2⟩ := k.T n (Nat.lt_of_lt_of_le hn h.nx) _ _ _ h3
  obtain ⟨v1, wv1, val1, h1, hv1, e1⟩ := h.T n hn _ _ _ h2
  refine ⟨v1, wv1, val1, h1, Nat.le_trans hv1 hv2, fun e => ?_⟩
  obtain ⟨q1, q2⟩ := e1 (by omega)
  obtain ⟨q3, q4⟩ := e2 (by omega)
  refine ⟨q1.trans q3, fun ew b hb => ?_⟩
  have l1 := h.wv n v1 wv1 wv2 val1 h1 (by rw [h2, q1]; simp; omega) hn
  have l2 := k.wv n v2 wv2 wv3 val2 h2 (by rw [h3, q3]; simp; omega) (Nat.lt_of_lt_of_le hn h.nx)
  exact (q4 (by omega) b (by rw [← q1]; exact hb)).trans (q2 (by omega) b hb)
 ·intro n ver wv wv3 val h1 h3 hn
  obtain ⟨v2, wv2, val2, h2, hv2, e2⟩ := k.T n (Nat.lt_of_lt_of_le hn h.nx) _ _ _ h3
  obtain ⟨v1, wv1, val1, h1', hv1, e1⟩ := h.T n hn _ _ _ h2
  rw [h1] at h1'
  simp only [Option.some.injEq, Prod.mk.injEq] at h1'
  obtain ⟨rfl, rfl, rfl⟩ := h1'
  obtain ⟨q3, _⟩ := e2 (by omega)
  obtain ⟨q1, _⟩ := e1 (by omega)
  have l1 := h.wv n ver wv wv2 val h1 (by rw [h2, q1]; simp; omega) hn
  have l2 := k.wv n v2 wv2 wv3 val2 h2 (by rw [h3, q3]; simp; omega) (Nat.lt_of_lt_of_le hn h.nx)
  omega

/-- .. as far as what stands for a value hangs on it. -/
structure EvR (E : Env) (w : World) (E' : Env) (w' : World) : Prop where
 B : E'.B = E.B
 L : ∀ b, E.L b ≤ E'.L b
 cell : ∀ b i, i < E.L b → w'.cell? ⟨b, i, none⟩ = w.cell? ⟨b, i, none⟩
 nx : E.nx ≤ E'.nx
 T : ∀ n, n < E.nx → ∀ ver' wv' val', E'.T n = some (ver', wv', val') → ∃ ver wv val, E.T n = some (ver, wv, val) ∧ ver ≤ ver' ∧ (ver = ver' → val = val')
theorem Ev.r {E E' : Env} {w w' : World} (h : Ev E w E' w') : EvR E w E' w' :=
 ⟨h.B, h.L, h.cell, h.nx, fun n hn v x y ht => let ⟨a, b, c, h1, h2, h3⟩ := h.T n hn v x y ht; ⟨a, b, c, h1, h2, fun e => (h3 e).1⟩⟩
theorem Laid.evr {E E' : Env} {w w' : World} (h : EvR E w E' w') {a : Option Addr} {n : Nat} {us : Nat → Value} (hl : Laid E w a n us) : Laid E' w' a n us := by
 rcases hl with h0 | ⟨b, off, ha, hb, hc⟩
 ·exact .inl h0
 ·exact .inr ⟨b, off, ha, Nat.le_trans hb (h.L b), fun j hj => (h.cell b (off + j) (by omega)).trans (hc j hj)⟩

theorem R.evr {E E' : Env} {w w' : World} (h : EvR E w E' w') {c : C} {x : Value} (hr : R E w c x) : R E' w' c x := by
 induction hr with
 | v hx => exact .v hx
 | list h1 h2 h3 h4 h5 h6 _ z1 z2 h8 ih =>
  refine .list h1 h2 h3 h4 h5 (h6.evr h) ih z1 z2 fun n hn => ⟨Nat.lt_of_lt_of_le (h8 n hn).1 h.nx, fun ver' wv' val' h' => ?_⟩
  obtain ⟨ver, wv, val, hT, hle, he⟩ := h.T n (h8 n hn).1 _ _ _ h'
  obtain ⟨q1, q2⟩ := (h8 n hn).2 _ _ _ hT
  exact ⟨Nat.le_trans q1 hle, fun e => he (by omega) ▸ q2 (by omega)⟩
 | elem h1 h2 h3 _ ih => exact .elem h1 h2 (h3.evr h) ih
 | box h1 h2 =>
  refine .box (Nat.lt_of_lt_of_le h1 h.nx) fun ver' wv' val' h' => ?_
  obtain ⟨ver, wv, val, hT, hle, he⟩ := h.T _ h1 _ _ _ h'
  obtain ⟨q1, q2⟩ := h2 _ _ _ hT
  exact ⟨Nat.le_trans q1 hle, fun e => he (by omega) ▸ q2 (by omega)⟩
 | own h1 hl hc h2 =>
  refine .own (Nat.lt_of_lt_of_le h1 h.nx) hl hc fun ver' wv' val' h' => ?_
  obtain ⟨ver, wv, val, hT, hle, he⟩ := h.T _ h1 _ _ _ h'
  obtain ⟨q1, q2⟩ := h2 _ _ _ hT
  exact ⟨Nat.le_trans q1 hle, fun e => he (by omega) ▸ q2 (by omega)⟩
 | arr h1 hl hc h2 =>
  refine .arr (Nat.lt_of_lt_of_le h1 h.nx) hl hc fun ver' wv' val' h' => ?_
  obtain ⟨ver, wv, val, hT, hle, he⟩ := h.T _ h1 _ _ _ h'
  obtain ⟨q1, q2⟩ := h2 _ _ _ hT
  exact ⟨Nat.le_trans q1 hle, fun e => he (by omega) ▸ q2 (by omega)⟩
 | fn h1 _ h3 ih => exact .fn h1 ih h3
 | map h1 h2 =>
  refine .map (Nat.lt_of_lt_of_le h1 h.nx) fun ver' wv' val' h' => ?_
  obtain ⟨ver, wv, val, hT, hle, he⟩ := h.T _ h1 _ _ _ h'
  exact fun e => he (by omega) ▸ h2 _ _ _ hT (by omega)
 | agg h1 h2 _ h4 ih => exact .agg h1 h2 ih h4
 | tup h1 _ h3 ih => exact .tup h1 ih h3
 | any => exact .any

theorem Laid.ev {E E' : Env} {w w' : World} (h : Ev E w E' w') {a : Option Addr} {n : Nat} {us : Nat → Value} (hl : Laid E w a n us) : Laid E' w' a n us := hl.evr h.r
theorem R.ev {E E' : Env} {w w' : World} (h : Ev E w E' w') {c : C} {x : Value} (hr : R E w c x) : R E' w' c x := hr.evr h.r

/-- What stands for a value hangs on what is laid, and on the names. -/
theorem Laid.same {E E' : Env} {w w' : World} (hL : ∀ b, E.L b ≤ E'.L b) (hc : ∀ b i, i < E.L b → w'.cell? ⟨b, i, none⟩ = w.cell? ⟨b, i, none⟩) {a : Option Addr} {n : Nat} {us : Nat → Value} (hl : Laid E w a n us) : Laid E' w' a n us := by
 rcases hl with h0 | ⟨b, off, ha, hb, h⟩
 ·exact .inl h0
 ·exact .inr ⟨b, off, ha, Nat.le_trans hb (hL b), fun j hj => (hc b (off + j) (by omega)).trans (h j hj)⟩
theorem R.same {E E' : Env} {w w' : World} (hL : ∀ b, E.L b ≤ E'.L b) (hc : ∀ b i, i < E.L b → w'.cell? ⟨b, i, none⟩ = w.cell? ⟨b, i, none⟩) (hT : E'.T = E.T) (hn : E'.nx = E.nx) {c : C} {x : Value} (hr : R E w c x) : R E' w' c x := by
 induction hr with
 | v hx => exact .v hx
 | list h1 h2 h3 h4 h5 h6 _ z1 z2 h8 ih => exact .list h1 h2 h3 h4 h5 (h6.same hL hc) ih z1 z2 fun n h => ⟨hn ▸ (h8 n h).1, fun ver wv val ht => (h8 n h).2 ver wv val (hT ▸ ht)⟩
 | elem h1 h2 h3 _ ih => exact .elem h1 h2 (h3.same hL hc) ih
 | box h1 h2 => exact .box (hn ▸ h1) fun ver wv val ht => h2 ver wv val (hT ▸ ht)
 | arr h1 h2 h3 h4 => exact .arr (hn ▸ h1) h2 h3 fun ver wv val ht => h4 ver wv val (hT ▸ ht)
 | own h1 h2 h3 h4 => exact .own (hn ▸ h1) h2 h3 fun ver wv val ht => h4 ver wv val (hT ▸ ht)
 | fn h1 _ h3 ih => exact .fn h1 ih h3
 | map h1 h2 => exact .map (hn ▸ h1) fun ver wv val ht => h2 ver wv val (hT ▸ ht)
 | agg h1 h2 _ h4 ih => exact .agg h1 h2 ih h4
 | tup h1 _ h3 ih => exact .tup h1 ih h3
 | any => exact .any

/-- Values one by one. -/
def Rs (E : Env) (w : World) (cs : List C) (vs : List Value) : Prop := vs.length = cs.length ∧ ∀ (j : Nat) (c : C) (v : Value), cs[j]? = some c → vs[j]? = some v → R E w c v
theorem Rs.evr {E E' : Env} {w w' : World} (h : EvR E w E' w') {cs : List C} {vs : List Value} (hr : Rs E w cs vs) : Rs E' w' cs vs := ⟨hr.1, fun j c v h1 h2 => (hr.2 j c v h1 h2).evr h⟩
theorem Rs.ev {E E' : Env} {w w' : World} (h : Ev E w E' w') {cs : List C} {vs : List Value} (hr : Rs E w cs vs) : Rs E' w' cs vs := ⟨hr.1, fun j c v h1 h2 => (hr.2 j c v h1 h2).ev h⟩
theorem Rs.same {E E' : Env} {w w' : World} (hL : ∀ b, E.L b ≤ E'.L b) (hc : ∀ b i, i < E.L b → w'.cell? ⟨b, i, none⟩ = w.cell? ⟨b, i, none⟩) (hT : E'.T = E.T) (hn : E'.nx = E.nx) {cs : List C} {vs : List Value} (hr : Rs E w cs vs) : Rs E' w' cs vs :=
 ⟨hr.1, fun j c v h1 h2 => (hr.2 j c v h1 h2).same hL hc hT hn⟩
end Go.AB
namespace Go.AB
open Go Go.RowKit

/-- A named object: a variable (its cells); an own slice (its elements' cells); an own slice whose elements are laid for good. -/
inductive GObj where
  | box (wv : Nat) (cs : List C)
  | arr (ver wv : Nat) (tt : TypeId) (sz len : Nat) (cs : List C)
  | tip (len : Nat) (tt : TypeId) (sz : Nat)
  | fact (v : Value) (c : C)
  | map (wv : Nat) (ok : List MapEntry → Nat → Prop) (f : Value → Option C)
  | raw (wv : Nat) (o : Obj)

/-- What stands in a slot: what was written last, or what stood there at the head of a list. -/
def cq (l : List C) : List (Nat × C) → Nat → C
  | [], i => l.getD i .any
  | (d, c) :: r, i => bif Nat.beq d i then c else cq l r i

/-- An abstract state: how many slots; what stands in the first ones; what was written since; the named objects; the next name. -/
structure St where
  n : Nat
  l : List C
  r : List (Nat × C)
  G : Nat → Option GObj
  nx : Nat
  df : Nat := 0

def St.at (st : St) (i : Nat) : C := bif Nat.blt i st.n then cq st.l st.r i else .any

/-- The entries of a map: which cells stand for the value of which key. -/
structure MapOk (E : Env) (w : World) (ok : List MapEntry → Nat → Prop) (f : Value → Option C) (es : List MapEntry) (clock : Nat) : Prop where
  ok : ok es clock
  pw : es.Pairwise fun a b => a.key ≠ b.key
  pb : es.Pairwise fun a b => a.born ≠ b.born
  val : ∀ e ∈ es, ∃ c, f e.key = some c ∧ R E w c e.val
  has : ∀ x c, f x = some c → ∃ e ∈ es, e.key = x
theorem MapOk.imp {E E' : Env} {w w' : World} {ok : List MapEntry → Nat → Prop} {f : Value → Option C} {es : List MapEntry} {clock : Nat} (h : MapOk E w ok f es clock) (k : ∀ x c v, f x = some c → R E w c v → R E' w' c v) : MapOk E' w' ok f es clock :=
  ⟨h.ok, h.pw, h.pb, fun e he => let ⟨c, h1, h2⟩ := h.val e he; ⟨c, h1, k _ c _ h1 h2⟩, h.has⟩
def ObjOk (E : Env) (w : World) (n : Nat) : GObj → Prop
  | .fact v c => E.T n = some (0, 0, undef) ∧ R E w c v
  | .raw wv o => ∃ b, E.T n = some (0, wv, .pointer (some ⟨b, 0, none⟩)) ∧ w.heap[b]? = some o ∧ o.isCells = false
  | .map wv ok f => ∃ r es clock, E.T n = some (0, wv, .map (some r)) ∧ w.heap[r]? = some (.map es clock) ∧ MapOk E w ok f es.toList clock ∧ es.all (·.born < clock) = true
  | .box wv cs => ∃ b us tt, E.T n = some (0, wv, .pointer (some ⟨b, 0, none⟩)) ∧ w.heap[b]? = some (.cells us tt (0, 0)) ∧ (∀ c ∈ cs, c.one = true) ∧ Rs E w cs us.toList ∧ E.L b = 0
  | .arr ver wv tt sz len cs => ∃ val us, E.T n = some (ver, wv, val) ∧ w.ownsRow E.B tt sz val len us ∧ (∀ c ∈ cs, c.one = true) ∧ Rs E w cs us ∧ (∀ b, blk val = some b → E.L b = 0) ∧ 1 ≤ sz
  | .tip len tt sz => ∃ val us, E.T n = some (len, 0, val) ∧ w.ownsRow E.B tt sz val len us ∧ (∀ b, blk val = some b → E.L b = len * sz) ∧ 1 ≤ sz

structure SimG (E : Env) (w : World) (G : Nat → Option GObj) (nx : Nat) : Prop where
  nx : E.nx = nx
  obj : ∀ n o, G n = some o → ObjOk E w n o
  lt : ∀ n t, E.T n = some t → n < E.nx
  tb : ∀ n ver wv val b, E.T n = some (ver, wv, val) → blk val = some b → E.B ≤ b ∧ b < w.heap.size
  ap : ∀ n m t t' b, E.T n = some t → E.T m = some t' → n ≠ m → blk t.2.2 = some b → blk t'.2.2 ≠ some b
  fresh : ∀ b, w.heap.size ≤ b → E.L b = 0
  base : E.B ≤ w.heap.size

/-- A frame's deferred calls: marks of ranges over functions, of which each is shut. -/
def DefOk (E : Env) (w : World) : List Deferred → Prop
  | [] => E.F ≤ w.heap.size
  | d :: ds => (∃ D, d = { target := .collected D, args := #[] } ∧ E.F ≤ D ∧ w.heap[D]? = some (.deferred (some [])) ∧ (∀ n t, E.T n = some t → blk t.2.2 ≠ some D) ∧ ∀ d' ∈ ds, d'.target ≠ .collected D) ∧ DefOk E w ds
theorem DefOk.ev {E E' : Env} {w w' : World} (h : Ev E w E' w') : ∀ {ds : List Deferred}, DefOk E w ds → DefOk E' w' ds
  | [], hF => Nat.le_trans (h.x.F ▸ hF) h.below.size
  | d :: ds, ⟨⟨D, e, hF, hD, hu, hn⟩, k⟩ => by
    refine ⟨⟨D, e, by rw [h.x.F]; exact hF, h.x.oth D _ hD hu, fun n t ht hb => ?_, hn⟩, DefOk.ev h k⟩
    obtain ⟨t0, h0, h1⟩ := h.x.nb n t D _ ht hb hD
    exact hu n t0 h0 h1
theorem DefOk.sub {E E' : Env} {w : World} (hF : E'.F = E.F) (hT : ∀ n t, E'.T n = some t → E.T n = some t) : ∀ {ds : List Deferred}, DefOk E w ds → DefOk E' w ds
  | [], h => by show E'.F ≤ w.heap.size; rw [hF]; exact h
  | d :: ds, ⟨⟨D, e, h1, h2, h3, h4⟩, k⟩ => ⟨⟨D, e, by rw [hF]; exact h1, h2, fun n t ht => h3 n t (hT n t ht), h4⟩, DefOk.sub hF hT k⟩

theorem DefOk.F {E : Env} {w : World} : ∀ {ds : List Deferred}, DefOk E w ds → E.F ≤ w.heap.size
  | [], h => h
  | _ :: _, ⟨_, k⟩ => DefOk.F k
/-- .. so many. -/
def DefN (E : Env) (w : World) (n : Nat) (ds : List Deferred) : Prop := DefOk E w ds ∧ ds.length = n
theorem DefN.ev {E E' : Env} {w w' : World} {n : Nat} (h : Ev E w E' w') {ds : List Deferred} (k : DefN E w n ds) : DefN E' w' n ds := ⟨k.1.ev h, k.2⟩
theorem DefN.sub {E E' : Env} {w : World} {n : Nat} (hF : E'.F = E.F) (hT : ∀ n t, E'.T n = some t → E.T n = some t) {ds : List Deferred} (k : DefN E w n ds) : DefN E' w n ds := ⟨k.1.sub hF hT, k.2⟩
theorem DefN.F {E : Env} {w : World} {n : Nat} {ds : List Deferred} (k : DefN E w n ds) : E.F ≤ w.heap.size := k.1.F

structure Sim (E : Env) (w : World) (st : St) (a : Act) : Prop where
  d : DefN E w st.df a.defers
  sz : a.tmps.size = st.n
  t : ∀ (i : Nat) (v : Value), a.tmps[i]? = some v → R E w (cq st.l st.r i) v
  g : SimG E w st.G st.nx

/-- A constant's cells. -/
def jl : Value → C
  | .slice none 0 0 => .list [] .nil
  | .agg cs => if cs.toList.all okV then .agg (cs.toList.map fun x => match x with | .slice none 0 0 => .list [] .nil | x => .v x) else .any
  | .tuple cs => if cs.toList = [] then .tup [] else .any
  | x => bif okV x then .v x else .any

theorem R.nil (E : Env) (w : World) : R E w (.list [] .nil) (.slice none 0 0) :=
  .list (rows := []) (sz := 1) (us := fun _ => undef) (Nat.le_refl _) (Nat.zero_le _) (Nat.le_refl _) (by simp) (by simp) (.inl rfl) (by simp) (fun _ => ⟨rfl, rfl⟩) (fun _ => rfl) (by simp)

theorem R.undef (E : Env) (w : World) : R E w (.tup []) undef := .tup (cs := []) (us := fun _ => Go.undef) rfl (by simp) (by simp)

theorem R.const (E : Env) (w : World) (v : Value) : R E w (jl v) v := by
  have one : ∀ x : Value, okV x = true → R E w (match x with | .slice none 0 0 => .list [] .nil | x => .v x) x := by
    intro x hx
    split
    · exact R.nil E w
    · exact .v hx
  unfold jl
  split
  · exact R.nil E w
  · rename_i cs
    split
    · rename_i h
      refine .agg (us := fun j => cs.getD j Go.undef) (by simp) ?_ ?_ ?_
      · intro c hc
        obtain ⟨x, _, rfl⟩ := List.mem_map.1 hc
        split <;> rfl
      · intro j c hj
        rw [List.getElem?_map] at hj
        cases hx : cs.toList[j]? with
        | none => rw [hx] at hj; cases hj
        | some x =>
          rw [hx] at hj
          simp only [Option.map_some, Option.some.injEq] at hj
          subst hj
          have hm : x ∈ cs.toList := List.mem_of_getElem? hx
          have h1 := List.all_eq_true.1 h x hm
          have : cs.getD j Go.undef = x := by
            rw [Array.getD_eq_getD_getElem?, ← Array.getElem?_toList, hx]; rfl
          rw [this]
          exact one x h1
      · intro j hj
        have : j < cs.size := by simpa using hj
        simp [this]
    · exact .any
  · rename_i cs
    split
    · rename_i h
      have : cs = #[] := by simpa using h
      subst this
      exact R.undef E w
    · exact .any
  · rename_i h1 h2 h3
    cases hv : okV v
    · exact .any
    · exact .v hv

def evC (st : St) : Operand → C
  | .tmp i => st.at i
  | .const v => jl v
  | .func f => .fn (.func f) []
  | .global g => .v (.pointer (some ⟨g, 0, none⟩))

theorem Sim.at {E : Env} {w : World} {st : St} {a : Act} (h : Sim E w st a) (i : Nat) : R E w (st.at i) (a.tmps.getD i undef) := by
  unfold St.at
  cases hb : Nat.blt i st.n
  · exact .any
  · have hlt : i < a.tmps.size := by rw [h.sz]; simpa [Nat.blt_eq] using hb
    have hv : a.tmps[i]? = some (a.tmps.getD i undef) := by simp [hlt]
    exact h.t i _ hv

theorem Sim.ev {E : Env} {w : World} {st : St} {a : Act} (h : Sim E w st a) (o : Operand) : R E w (evC st o) (a.eval o) := by
  cases o with
  | tmp i => exact h.at i
  | const v => exact R.const E w v
  | func f => exact .fn (caps := []) (us := fun _ => undef) rfl (by simp) (by simp)
  | global g => exact .v rfl

def St.put (st : St) (d : Option Tmp) (c : C) : St := match d with | some i => { st with r := (i, c) :: st.r } | none => st

theorem Sim.put {E : Env} {w : World} {st : St} {a : Act} (h : Sim E w st a) (d : Option Tmp) {c : C} {v : Value} (hr : R E w c v) : Sim E w (st.put d c) (a.put d v) := by
  cases d with
  | none => exact h
  | some d =>
    refine ⟨h.d, by simpa [Act.put, St.put] using h.sz, ?_, h.g⟩
    intro i x hi
    simp only [Act.put, Array.getElem?_setIfInBounds] at hi
    simp only [St.put, cq]
    split at hi
    · rename_i hd
      split at hi
      · simp only [Option.some.injEq] at hi
        subst hi; subst hd
        rw [Nat.beq_refl]; exact hr
      · cases hi
    · rename_i hd
      have : Nat.beq d i = false := by
        cases hb : Nat.beq d i
        · rfl
        · exact (hd (Nat.eq_of_beq_eq_true hb)).elim
      rw [this]
      exact h.t i x hi

/-- What was written since is put into the list of the first slots; the others are forgotten. -/
def ks (l : List C) (r : List (Nat × C)) : Nat → Nat → List C
  | _, 0 => []
  | i, k + 1 => cq l r i :: ks l r (i + 1) k
theorem xl (l : List C) (r : List (Nat × C)) : ∀ (k i j : Nat), (ks l r i k)[j]? = if j < k then some (cq l r (i + j)) else none
  | 0, i, j => by simp [ks]
  | k + 1, i, 0 => by simp [ks]
  | k + 1, i, j + 1 => by
    simp only [ks, List.getElem?_cons_succ, xl l r k (i + 1) j]
    by_cases h : j < k
    · rw [if_pos h, if_pos (by omega)]; congr 2; omega
    · rw [if_neg h, if_neg (by omega)]
theorem Sim.wipe {E : Env} {w : World} {st : St} {a : Act} (h : Sim E w st a) (k : Nat) : Sim E w { st with l := ks st.l st.r 0 k, r := [] } a := by
  refine ⟨h.d, h.sz, fun i v hv => ?_, h.g⟩
  simp only [cq]
  rw [List.getD_eq_getElem?_getD, xl]
  split
  · simpa using h.t i v hv
  · exact .any

theorem ObjOk.keepr {E E' : Env} {w w' : World} {n : Nat} {o : GObj} (h : ObjOk E w n o) (hev : EvR E w E' w') (hT : E'.T n = E.T n)
    (hh : ∀ ver wv val b, E.T n = some (ver, wv, val) → blk val = some b → w'.heap[b]? = w.heap[b]? ∧ E'.L b = E.L b) : ObjOk E' w' n o := by
  cases o with
  | fact v c => exact ⟨hT.trans h.1, h.2.evr hev⟩
  | raw wv o => obtain ⟨b, h1, h2, h3⟩ := h; exact ⟨b, hT.trans h1, (hh _ _ _ b h1 rfl).1.trans h2, h3⟩
  | map wv ok f =>
    obtain ⟨r, es, clock, h1, h2, h3, h4⟩ := h
    exact ⟨r, es, clock, hT.trans h1, (hh _ _ _ r h1 rfl).1.trans h2, h3.imp fun _ _ _ _ hr => hr.evr hev, h4⟩
  | box wv cs =>
    obtain ⟨b, us, tt, h1, h2, h3, h4, h5⟩ := h
    obtain ⟨e1, e2⟩ := hh _ _ _ b h1 rfl
    exact ⟨b, us, tt, hT.trans h1, e1.trans h2, h3, h4.evr hev, e2.trans h5⟩
  | arr ver wv tt sz len cs =>
    obtain ⟨val, us, h1, h2, h3, h4, h5, h6⟩ := h
    refine ⟨val, us, hT.trans h1, ⟨h2.1, ?_⟩, h3, h4.evr hev, fun b hb => (hh _ _ _ b h1 hb).2.trans (h5 b hb), h6⟩
    rcases h2.2 with h2 | ⟨g, cap, cur, rfl, hg, hgg, rest⟩
    · exact .inl h2
    · exact .inr ⟨g, cap, cur, rfl, hev.B ▸ hg, (hh _ _ _ g h1 rfl).1.trans hgg, rest⟩
  | tip len tt sz =>
    obtain ⟨val, us, h1, h2, h5, h6⟩ := h
    refine ⟨val, us, hT.trans h1, ⟨h2.1, ?_⟩, fun b hb => (hh _ _ _ b h1 hb).2.trans (h5 b hb), h6⟩
    rcases h2.2 with h2 | ⟨g, cap, cur, rfl, hg, hgg, rest⟩
    · exact .inl h2
    · exact .inr ⟨g, cap, cur, rfl, hev.B ▸ hg, (hh _ _ _ g h1 rfl).1.trans hgg, rest⟩

theorem ObjOk.keep {E E' : Env} {w w' : World} {n : Nat} {o : GObj} (h : ObjOk E w n o) (hev : Ev E w E' w') (hT : E'.T n = E.T n)
    (hh : ∀ ver wv val b, E.T n = some (ver, wv, val) → blk val = some b → w'.heap[b]? = w.heap[b]? ∧ E'.L b = E.L b) : ObjOk E' w' n o := h.keepr hev.r hT hh

theorem Sim.evd {E E' : Env} {w w' : World} {st : St} {a : Act} (h : Sim E w st a) (hev : Ev E w E' w') {G : Nat → Option GObj} {nx : Nat} (hg : SimG E' w' G nx) : Sim E' w' { st with G := G, nx := nx } a :=
  ⟨h.d.ev hev, h.sz, fun i v hv => (h.t i v hv).ev hev, hg⟩

/-- Only what is there may be forgotten. -/
theorem SimG.weak {E : Env} {w : World} {G G' : Nat → Option GObj} {nx : Nat} (h : SimG E w G nx) (hs : ∀ n o, G' n = some o → G n = some o) : SimG E w G' nx :=
  ⟨h.nx, fun n o ho => h.obj n o (hs n o ho), h.lt, h.tb, h.ap, h.fresh, h.base⟩

/-! ### Changes of the world -/
/-- The heap is the same. -/
theorem Ev.same {E : Env} {w w' : World} (hb : Below E.B w w') (hh : w'.heap = w.heap) : Ev E w E w' :=
  ⟨hb, rfl, fun _ => Nat.le_refl _, fun b i _ => World.cell?_of_block (w := w) (by rw [hh]), Nat.le_refl _, fun n _ ver wv val h => ⟨ver, wv, val, h, Nat.le_refl _, fun _ => ⟨rfl, fun _ _ _ => by rw [hh]⟩⟩, fun n ver wv wv' val h h' _ => by rw [h] at h'; simp at h'; omega,
   ⟨rfl, fun b h => absurd h (Nat.lt_irrefl _), fun b o h _ => by rw [hh]; exact h, fun b o h => ⟨o, by rw [hh]; exact h, rfl⟩, fun _ t _ _ h k _ => ⟨t, h, k⟩, fun n t t' b _ h h' hv _ => by rw [h] at h'; cases h'; omega⟩⟩
theorem SimG.same {E : Env} {w w' : World} {G : Nat → Option GObj} {nx : Nat} (h : SimG E w G nx) (hb : Below E.B w w') (hh : w'.heap = w.heap) : SimG E w' G nx :=
  ⟨h.nx, fun n o ho => (h.obj n o ho).keep (Ev.same hb hh) rfl (fun _ _ _ _ _ _ => ⟨by rw [hh], rfl⟩), h.lt, fun n ver wv val b h1 h2 => by rw [hh]; exact h.tb n ver wv val b h1 h2, h.ap, fun b hb' => h.fresh b (by rw [← hh]; exact hb'), by rw [hh]; exact h.base⟩

/-- A new block, so many of its cells for good. -/
def Env.lay (E : Env) (b n : Nat) : Env := { E with L := fun k => if k = b then n else E.L k }

theorem ow (w : World) (us : Array Value) (tt : TypeId) : us.size = 0 ∨ ∃ v, (w.alloc (.cells us tt)).cell? ⟨w.heap.size, 0, none⟩ = some v := by
  rcases Nat.eq_zero_or_pos us.size with h | h
  · exact .inl h
  · refine .inr ⟨us[0], ?_⟩
    have : (w.alloc (.cells us tt)).heap[w.heap.size]? = some (.cells us tt) := heap_alloc_new w _
    unfold World.cell?
    dsimp only
    rw [this]
    simp [h]
theorem Ev.laid {E : Env} {w w' : World} {G : Nat → Option GObj} {nx : Nat} (h : SimG E w G nx) {o : Obj} (n : Nat) (hw : w' = w.alloc o ∨ w' = w.drew.alloc o) (hx : n = 0 ∨ ∃ v, w'.cell? ⟨w.heap.size, 0, none⟩ = some v := by exact .inl rfl) : Ev E w (E.lay w.heap.size n) w' := by
  have hb : Below E.B w w' := by
    rcases hw with rfl | rfl
    · exact (Below.refl _ _).alloc h.base o
    · exact ((Below.refl _ _).drew).alloc h.base o
  have hold : ∀ k, k < w.heap.size → w'.heap[k]? = w.heap[k]? := by
    rcases hw with rfl | rfl
    · exact fun k hk => Below.heap_alloc w o k hk
    · exact fun k hk => Below.heap_alloc w.drew o k hk
  refine ⟨hb, rfl, fun b => ?_, fun b i hi => ?_, Nat.le_refl _, fun k _ ver wv val hk => ⟨ver, wv, val, hk, Nat.le_refl _, fun _ => ⟨rfl, fun _ b hb => hold b (h.tb k ver wv val b hk hb).2⟩⟩, fun k ver wv wv' val h1 h2 _ => by rw [show (E.lay w.heap.size n).T = E.T from rfl, h1] at h2; simp at h2; omega, ?_⟩
  · simp only [Env.lay]
    split
    · rename_i e; subst e; rw [h.fresh _ (Nat.le_refl _)]; exact Nat.zero_le _
    · exact Nat.le_refl _
  · have : b < w.heap.size := by
      rcases Nat.lt_or_ge b w.heap.size with h1 | h1
      · exact h1
      · rw [h.fresh b h1] at hi; omega
    exact World.cell?_of_block (w := w) (hold b this)
  · refine ⟨rfl, fun b hb => ?_, fun b o ho _ => ?_, fun b o ho => ⟨o, ?_, rfl⟩, fun _ t _ _ ht hb _ => ⟨t, ht, hb⟩, fun k t t' b _ h1 h2 hv _ => by
      have h3 : E.T k = some t' := h2
      rw [h1] at h3; cases h3; omega⟩
    · simp only [Env.lay] at hb
      split at hb
      · rename_i e; subst e
        rcases hx with h0 | h0
        · omega
        · exact h0
      · omega
    · exact (hold b (Array.getElem?_eq_some_iff.1 ho).1).trans ho
    · exact (hold b (Array.getElem?_eq_some_iff.1 ho).1).trans ho

theorem SimG.laid {E : Env} {w w' : World} {G : Nat → Option GObj} {nx : Nat} (h : SimG E w G nx) {o : Obj} (n : Nat) (hw : w' = w.alloc o ∨ w' = w.drew.alloc o) (hx : n = 0 ∨ ∃ v, w'.cell? ⟨w.heap.size, 0, none⟩ = some v := by exact .inl rfl) : SimG (E.lay w.heap.size n) w' G nx := by
  have hev := Ev.laid h n hw hx
  have hsz : w'.heap.size = w.heap.size + 1 := by rcases hw with rfl | rfl <;> simp
  have hold : ∀ k, k < w.heap.size → w'.heap[k]? = w.heap[k]? := by
    rcases hw with rfl | rfl
    · exact fun k hk => Below.heap_alloc w o k hk
    · exact fun k hk => Below.heap_alloc w.drew o k hk
  refine ⟨h.nx, fun k ob ho => (h.obj k ob ho).keep hev rfl (fun ver wv val b h1 h2 => ?_), h.lt, fun k ver wv val b h1 h2 => ?_, h.ap, fun b hb => ?_, by rw [hsz]; exact Nat.le_trans h.base (Nat.le_succ _)⟩
  · have hlt := (h.tb k ver wv val b h1 h2).2
    exact ⟨hold b hlt, by simp only [Env.lay]; rw [if_neg (by omega)]⟩
  · have := h.tb k ver wv val b h1 h2
    exact ⟨this.1, by omega⟩
  · simp only [Env.lay]
    rw [if_neg (by omega)]
    exact h.fresh b (by omega)

/-- A new name. -/
def Env.name (E : Env) (val : Value) : Env := { E with T := fun k => if k = E.nx then some (0, 0, val) else E.T k, nx := E.nx + 1 }
def bc (G : Nat → Option GObj) (n : Nat) (o : GObj) : Nat → Option GObj := fun k => if k = n then some o else G k

theorem EvR.name (E : Env) (w : World) (val : Value) : EvR E w (E.name val) w :=
  ⟨rfl, fun _ => Nat.le_refl _, fun _ _ _ => rfl, Nat.le_succ _, fun n hn ver wv v hk => by
    simp only [Env.name] at hk
    rw [if_neg (by omega)] at hk
    exact ⟨ver, wv, v, hk, Nat.le_refl _, fun _ => rfl⟩⟩
/-- Something gets a name that was not there. -/
theorem Ev.thenName {E E1 : Env} {w w1 : World} (h : Ev E w E1 w1) (val : Value) (hf : ∀ b o, blk val = some b → w.heap[b]? = some o → False) : Ev E w (E1.name val) w1 :=
  ⟨h.below, h.B, h.L, h.cell, Nat.le_trans h.nx (Nat.le_succ _), fun n hn ver wv v hk => by
    have := h.nx
    simp only [Env.name] at hk
    rw [if_neg (by omega)] at hk
    exact h.T n hn ver wv v hk, fun n ver wv wv' v h1 h2 hn => by
    have := h.nx
    simp only [Env.name] at h2
    rw [if_neg (by omega)] at h2
    exact h.wv n ver wv wv' v h1 h2 hn, ⟨h.x.F, h.x.lc, h.x.oth, h.x.ic, fun n t' b o ht hb ho => by
    simp only [Env.name] at ht
    split at ht
    · simp only [Option.some.injEq] at ht
      subst ht
      exact (hf b o hb ho).elim
    · exact h.x.nb n t' b o ht hb ho, fun n t t' b hn h1 h2 hv hb => by
    have := h.nx
    simp only [Env.name] at h2
    rw [if_neg (by omega)] at h2
    exact h.x.mv n t t' b hn h1 h2 hv hb⟩⟩
theorem Ev.name {E : Env} {w : World} {G : Nat → Option GObj} {nx : Nat} (_h : SimG E w G nx) (val : Value) (hc : ∀ b o, blk val = some b → w.heap[b]? = some o → False) : Ev E w (E.name val) w :=
  (Ev.refl E w).thenName val hc

theorem SimG.name {E : Env} {w : World} {G : Nat → Option GObj} {nx : Nat} (h : SimG E w G nx) (val : Value) (o : GObj)
    (hval : ∀ b, blk val = some b → E.B ≤ b ∧ b < w.heap.size ∧ ∀ n t, E.T n = some t → blk t.2.2 ≠ some b)
    (ho : ObjOk (E.name val) w nx o) : SimG (E.name val) w (bc G nx o) (nx + 1) := by
  have hev := EvR.name E w val
  obtain rfl := h.nx
  refine ⟨rfl, fun k ob hk => ?_, fun k t hk => ?_, fun k ver wv v b hk hb => ?_, fun n m t t' b h1 h2 hne hb => ?_, h.fresh, h.base⟩
  · simp only [bc] at hk
    split at hk
    · rename_i e
      subst e
      simp only [Option.some.injEq] at hk
      subst hk
      exact ho
    · rename_i e
      refine (h.obj k ob hk).keepr hev ?_ (fun _ _ _ _ _ _ => ⟨rfl, rfl⟩)
      simp only [Env.name]
      rw [if_neg e]
  · simp only [Env.name] at hk ⊢
    split at hk
    · rename_i e; omega
    · have := h.lt k t hk; omega
  · simp only [Env.name] at hk
    split at hk
    · simp only [Option.some.injEq, Prod.mk.injEq] at hk
      obtain ⟨rfl, rfl, rfl⟩ := hk
      have := hval b hb
      exact ⟨this.1, this.2.1⟩
    · exact h.tb k ver wv v b hk hb
  · simp only [Env.name] at h1 h2
    split at h1
    · rename_i e1
      simp only [Option.some.injEq] at h1
      subst h1
      rw [if_neg (by omega)] at h2
      exact (hval b hb).2.2 m t' h2
    · split at h2
      · simp only [Option.some.injEq] at h2
        subst h2
        intro hb'
        exact (hval b hb').2.2 n t h1 hb
      · exact h.ap n m t t' b h1 h2 hne hb

end Go.AB
namespace Go.AB
open Go Go.RowKit

/-! ### A named object changes -/
def Env.chg (E : Env) (n : Nat) (t : Nat × Nat × Value) (l : Nat) : Env :=
 { E with T := fun k => if k = n then some t else E.T k, L := fun k => if blk t.2.2 = some k then l else E.L k }

section
variable {E : Env} {w w' : World} {G : Nat → Option GObj} {nx n ver wv ver' wv' l : Nat} {val val' : Value}

/-- What must be so of the new world. -/
structure Chg (E : Env) (w w' : World) (ver wv : Nat) (val : Value) (ver' wv' : Nat) (val' : Value) (l : Nat) : Prop where
 below : Below E.B w w'
 old : ∀ k, k < w.heap.size → blk val ≠ some k → w'.heap[k]? = w.heap[k]?
 new : ∀ b, blk val' = some b → (blk val = some b ∧ E.L b ≤ l) ∨ (w.heap.size ≤ b ∧ b < w'.heap.size)
 cell : ∀ b i, blk val = some b → i < E.L b → w'.cell? ⟨b, i, none⟩ = w.cell? ⟨b, i, none⟩
 vers : ver < ver' ∨ (ver = ver' ∧ val = val' ∧ wv < wv')
 ic : ∀ b (o : Obj), blk val = some b → w.heap[b]? = some o → ∃ o' : Obj, w'.heap[b]? = some o' ∧ o'.isCells = o.isCells
 mv : ver < ver' → ∀ b, blk val' = some b → ∃ o : Obj, w'.heap[b]? = some o ∧ o.isCells = true
 lc : ∀ b, blk val' = some b → E.L b < l → ∃ v, w'.cell? ⟨b, 0, none⟩ = some v

theorem Ev.chg (h : SimG E w G nx) (hT : E.T n = some (ver, wv, val)) (hc : Chg E w w' ver wv val ver' wv' val' l) : Ev E w (E.chg n (ver', wv', val') l) w' := by
 refine ⟨hc.below, rfl, fun b => ?_, fun b i hi => ?_, Nat.le_refl _, fun k hk v2 wv2 x2 h2 => ?_, fun k v1 wv1 wv2 x1 h1 h2 hk => ?_, ?_⟩
 ·simp only [Env.chg]
  split
  ·rename_i hb
   rcases hc.new b hb with h1 | h1
   ·exact h1.2
   ·rw [h.fresh b h1.1]; exact Nat.zero_le _
  ·exact Nat.le_refl _
 ·by_cases hb : blk val = some b
  ·exact hc.cell b i hb hi
  ·have : b < w.heap.size := by
    rcases Nat.lt_or_ge b w.heap.size with h1 | h1
    ·exact h1
    ·rw [h.fresh b h1] at hi; omega
   exact World.cell?_of_block (w := w) (hc.old b this hb)
 ·simp only [Env.chg] at h2
  split at h2
  ·rename_i e
   subst e
   simp only [Option.some.injEq, Prod.mk.injEq] at h2
   obtain ⟨rfl, rfl, rfl⟩ := h2
   refine ⟨ver, wv, val, hT, ?_, fun e => ?_⟩
   ·rcases hc.vers with h1 | h1 <;> omega
   ·rcases hc.vers with h1 | ⟨h1, h2, h3⟩
    ·omega
    ·exact ⟨h2, fun e => by omega⟩
  ·rename_i e
   refine ⟨v2, wv2, x2, h2, Nat.le_refl _, fun _ => ⟨rfl, fun _ b hb => ?_⟩⟩
   have hlt := h.tb k _ _ _ b h2 hb
   exact hc.old b hlt.2 (fun e2 => h.ap k n _ _ b h2 hT e hb e2)
 ·simp only [Env.chg] at h2
  split at h2
  ·rename_i e
   subst e
   rw [hT] at h1
   simp only [Option.some.injEq, Prod.mk.injEq] at h1 h2
   obtain ⟨rfl, rfl, rfl⟩ := h1
   obtain ⟨rfl, rfl, rfl⟩ := h2
   rcases hc.vers with h1 | ⟨h1, h2, h3⟩ <;> omega
  ·rw [h1] at h2
   simp at h2; omega
 ·refine ⟨rfl, fun b hb => ?_, fun b o ho hu => ?_, fun b o ho => ?_, fun k t' b o ht hb ho => ?_, fun k t t' b hk h1 h2 hlt hb => ?_⟩
  ·simp only [Env.chg] at hb
   split at hb
   ·rename_i e; exact hc.lc b e hb
   ·omega
  ·exact (hc.old b (Array.getElem?_eq_some_iff.1 ho).1 (hu n _ hT)).trans ho
  ·by_cases e : blk val = some b
   ·exact hc.ic b o e ho
   ·exact ⟨o, (hc.old b (Array.getElem?_eq_some_iff.1 ho).1 e).trans ho, rfl⟩
  ·simp only [Env.chg] at ht
   split at ht
   ·rename_i e
    simp only [Option.some.injEq] at ht
    subst ht
    rcases hc.new b hb with h1 | h1
    ·exact ⟨_, e ▸ hT, h1.1⟩
    ·have := (Array.getElem?_eq_some_iff.1 ho).1
     omega
   ·exact ⟨t', ht, hb⟩
  ·simp only [Env.chg] at h2
   split at h2
   ·rename_i e
    subst e
    rw [hT] at h1
    cases h1
    simp only [Option.some.injEq] at h2
    subst h2
    exact hc.mv hlt b hb
   ·rw [h1] at h2
    cases h2
    omega

theorem SimG.chg (h : SimG E w G nx) (hT : E.T n = some (ver, wv, val)) (hc : Chg E w w' ver wv val ver' wv' val' l) {o : GObj} (ho : ObjOk (E.chg n (ver', wv', val') l) w' n o) :
  SimG (E.chg n (ver', wv', val') l) w' (bc G n o) nx := by
 have hev := Ev.chg h hT hc
 have hother : ∀ k, k ≠ n → (E.chg n (ver', wv', val') l).T k = E.T k := fun k hk => by simp only [Env.chg]; rw [if_neg hk]
 refine ⟨h.nx, fun k ob hk => ?_, fun k t hk => ?_, fun k v2 wv2 x2 b hk hb => ?_, fun k m t t' b h1 h2 hne hb => ?_, fun b hb => ?_, Nat.le_trans h.base hc.below.size⟩
 ·simp only [bc] at hk
  split at hk
  ·rename_i e
   subst e
   simp only [Option.some.injEq] at hk
   subst hk
   exact ho
  ·rename_i e
   refine (h.obj k ob hk).keep hev (hother k e) (fun v1 wv1 x1 b h1 hb => ?_)
   have hlt := h.tb k _ _ _ b h1 hb
   have hne : blk val ≠ some b := fun e2 => h.ap k n _ _ b h1 hT e hb e2
   refine ⟨hc.old b hlt.2 hne, ?_⟩
   simp only [Env.chg]
   rw [if_neg]
   intro e2
   rcases hc.new b e2 with h3 | h3
   ·exact hne h3.1
   ·omega
 ·by_cases e : k = n
  ·subst e; exact h.lt k _ hT
  ·rw [hother k e] at hk; exact h.lt k t hk
 ·by_cases e : k = n
  ·subst e
   simp only [Env.chg, if_true, Option.some.injEq, Prod.mk.injEq] at hk
   obtain ⟨rfl, rfl, rfl⟩ := hk
   rcases hc.new b hb with h3 | h3
   ·have := h.tb k _ _ _ b hT h3.1
    exact ⟨this.1, Nat.lt_of_lt_of_le this.2 hc.below.size⟩
   ·exact ⟨Nat.le_trans h.base h3.1, h3.2⟩
  ·rw [hother k e] at hk
   have := h.tb k _ _ _ b hk hb
   exact ⟨this.1, Nat.lt_of_lt_of_le this.2 hc.below.size⟩
 ·have key : ∀ m t', m ≠ n → E.T m = some t' → blk val' = some b → blk t'.2.2 ≠ some b := fun m t' hm h2 hb hb' => by
   rcases hc.new b hb with h3 | h3
   ·exact h.ap m n _ _ b h2 hT hm hb' h3.1
   ·have := h.tb m t'.1 t'.2.1 t'.2.2 b h2 hb'
    omega
  by_cases e : k = n
  ·subst e
   simp only [Env.chg, if_true, Option.some.injEq] at h1
   subst h1
   rw [hother m (Ne.symm hne)] at h2
   exact key m t' (Ne.symm hne) h2 hb
  ·rw [hother k e] at h1
   by_cases e2 : m = n
   ·subst e2
    simp only [Env.chg, if_true, Option.some.injEq] at h2
    subst h2
    exact fun hb' => key k t e h1 hb' hb
   ·rw [hother m e2] at h2
    exact h.ap k m t t' b h1 h2 hne hb
 ·simp only [Env.chg]
  rw [if_neg]
  ·exact h.fresh b (Nat.le_trans hc.below.size hb)
  ·intro e
   rcases hc.new b e with h3 | h3
   ·have := (h.tb n _ _ _ b hT h3.1).2
    have := hc.below.size
    omega
   ·omega
end

/-! ### The logic -/
/-- An exit's claim on abstract states as one on frames and worlds. -/
def kq (E : Env) (w : World) (Q : Exit → St → Prop) (ex : Exit) (a' : Act) (w' : World) : Prop := ∃ st' E', Ev E w E' w' ∧ Sim E' w' st' a' ∧ Q ex st'

/-- The fence of a frame, or of a round of a range over a function. -/
def fen (ρ : Option Nat) : Fence := { Fence.wide with round := ρ }
/-- What code does, in a frame or in a round. -/
def cwp (ρ : Option Nat) (P : Program) (c : Code) (Q : Exit → Act → World → Prop) (a : Act) (w : World) : Prop := c.wpIn (fen ρ) 1 P Q a w
theorem s0 {ρ : Option Nat} {n m : Nat} {P : Program} {c : Code} {Q : Exit → Act → World → Prop} {a : Act} {w : World} (h : c.wpIn (fen ρ) n P Q a w) : c.wpIn (fen ρ) m P Q a w :=
 fun b k cs h1 h2 _ => h b k cs h1 h2 (fun _ hd => by cases hd)
theorem gd {ρ : Option Nat} {P : Program} {c : Code} {Q Q' : Exit → Act → World → Prop} {a : Act} {w : World} (hq : ∀ e a w, Q e a w → Q' e a w) (h : cwp ρ P c Q a w) : cwp ρ P c Q' a w := wpIn_mono h hq
theorem uep {ρ : Option Nat} {n : Nat} {P : Program} {f : FuncId} {args : Array Value} {w : World} {R : Ending → World → Prop} (h : Calls P f args w R) : CallsIn (fen ρ) n P f args w R := by
 have := (callsIn_wide (n := n)).2 h
 exact this
theorem uam {ρ : Option Nat} {n : Nat} {P : Program} {row : String} {args : Array Value} {w : World} {R : Value → World → Prop} (h : Rows P row args w R) : RowsIn (fen ρ) n P row args w R := by
 have : RowsIn Fence.wide n P row args w R := fun c cs _ => let ⟨v, w', r, s⟩ := h c cs; ⟨v, w', r, stepsIn_wide.2 s⟩
 exact this
/-- An operation, in a frame or in a round. -/
theorem r9 {ρ : Option Nat} {P : Program} {o : Oper} {a : Act} {w : World} {K : Act → World → Prop} {Q : Exit → Act → World → Prop} (hd : ∀ c, o.op ≠ .defer c) (h : o.wp P a w K Q) : o.wpIn (fen ρ) 1 P a w K Q := by
 refine ⟨fun _ _ => trivial, ?_⟩
 rw [Oper.semAt_eq _ _ _ hd]
 unfold Oper.wp at h
 generalize (execOp a.eval o).run P w = r at h
 cases r with
 | ok x w' =>
  cases x with
  | enter f args => exact ⟨fun e => (by cases e), uep h⟩
  | row r args => exact ⟨fun e => (by cases e), uam h⟩
  | round l f tmps assign body => exact h.elim
  | _ => exact h
 | halt x w' => cases x <;> exact h

/-- What code does to an abstract state. -/
def AW (ρ : Option Nat) (P : Program) (c : Code) (Q : Exit → St → Prop) (st : St) : Prop := ∀ E w a, Sim E w st a → cwp ρ P c (kq E w Q) a w

def jz (K : St → Prop) (Q : Exit → St → Prop) : Exit → St → Prop
 | .normal, st => K st
 | e, st => Q e st

def zk (id : Nat) (Q : Exit → St → Prop) : Exit → St → Prop
 | .exit id', st => if id' = id then Q .normal st else Q (.exit id') st
 | e, st => Q e st

theorem AW.mono {ρ : Option Nat} {P : Program} {c : Code} {Q Q' : Exit → St → Prop} {st : St} (h : AW ρ P c Q st) (hq : ∀ e st, Q e st → Q' e st) : AW ρ P c Q' st :=
 fun E w a hs => gd (fun _ _ _ ⟨st', E', h1, h2, h3⟩ => ⟨st', E', h1, h2, hq _ _ h3⟩) (h E w a hs)

section
variable {ρ : Option Nat} {P : Program} {Q : Exit → St → Prop} {st : St}

theorem bn (h : Q .normal st) : AW ρ P .skip Q st := fun E w _ hs => wpIn_skip ⟨st, E, Ev.refl E w, hs, h⟩
theorem ue1 {l : Nat} (h : Q .normal st) : AW ρ P (.label l) Q st := fun E w _ hs => wpIn_label ⟨st, E, Ev.refl E w, hs, h⟩
theorem co {id : Nat} (h : Q (.exit id) st) : AW ρ P (.exit id) Q st := fun E w _ hs => wpIn_exit ⟨st, E, Ev.refl E w, hs, h⟩
theorem bk (h : Q .ret st) : AW ρ P .ret Q st := fun E w _ hs => wpIn_ret ⟨st, E, Ev.refl E w, hs, h⟩

theorem kp {E1 E2 : Env} {w1 w2 : World} (h : Ev E1 w1 E2 w2) {ex : Exit} {a : Act} {w : World} (hq : kq E2 w2 Q ex a w) : kq E1 w1 Q ex a w :=
 let ⟨st', E', h1, h2, h3⟩ := hq; ⟨st', E', h.trans h1, h2, h3⟩

theorem uex {x y : Code} (h : AW ρ P x (jz (AW ρ P y Q) Q) st) : AW ρ P (.seq x y) Q st := by
 intro E w a hs
 refine wpIn_seq (gd ?_ (h E w a hs))
 rintro e a' w' ⟨st', E', h1, h2, h3⟩
 cases e with
 | normal => exact gd (fun _ _ _ hq => kp h1 hq) (h3 E' w' a' h2)
 | _ => exact ⟨st', E', h1, h2, h3⟩

theorem bl {c : Operand} {x y : Code} {b : Bool} (hc : evC st c = .v (.bool b)) (ht : b = true → AW ρ P x Q st) (hf : b = false → AW ρ P y Q st) : AW ρ P (.cond c x y) Q st := by
 intro E w a hs
 have hr := hs.ev c
 rw [hc] at hr
 cases he : a.eval c with
 | bool b' =>
  rw [he] at hr
  cases hr
  exact wpIn_cond_split he (fun e => ht e E w a hs) (fun e => hf e E w a hs)
 | _ => rw [he] at hr; cases hr

theorem bq {id : Nat} {c : Code} (h : AW ρ P c (zk id Q) st) : AW ρ P (.block id c) Q st := by
 intro E w a hs
 refine wpIn_block (gd ?_ (h E w a hs))
 rintro e a' w' ⟨st', E', h1, h2, h3⟩
 cases e with
 | exit id' =>
  simp only [zk] at h3
  simp only [Exit.inBlock]
  split at h3
  ·rename_i e; rw [if_pos e]; exact ⟨st', E', h1, h2, h3⟩
  ·rename_i e; rw [if_neg e]; exact ⟨st', E', h1, h2, h3⟩
 | _ => exact ⟨st', E', h1, h2, h3⟩

/-- What is known may be forgotten: another abstract state that the same frames and worlds meet. -/
def Le (st st' : St) : Prop := ∀ E w a, Sim E w st a → Sim E w st' a
theorem wq {p : Nat → Prop} (h : ∃ n, p n) : ∃ n, p n ∧ ∀ m, p m → n ≤ m := by
 obtain ⟨n, hn⟩ := h
 induction n using Nat.strongRecOn with
 | _ n ih =>
  by_cases hm : ∃ m, m < n ∧ p m
  ·obtain ⟨m, h1, h2⟩ := hm
   exact ih m h1 h2
  ·exact ⟨n, hn, fun m h => Nat.le_of_not_lt fun h1 => hm ⟨m, h1, h⟩⟩
open Classical in
noncomputable def p6 (p : Nat → Prop) : Nat := if h : ∃ n, p n then (wq h).choose else 0
theorem wo {p : Nat → Prop} (h : ∃ n, p n) : p (p6 p) ∧ ∀ m, p m → p6 p ≤ m := by
 unfold p6
 rw [dif_pos h]
 exact (wq h).choose_spec
/-- A loop, with a number that goes down. -/
theorem s4 {c : Code} {Q : Exit → Act → World → Prop} {a : Act} {w : World} (J : Nat → Act → World → Prop) (m : Nat) (h0 : J m a w)
  (round : ∀ m a w, J m a w → cwp ρ P c (Exit.then (fun a' w' => ∃ m', m' < m ∧ J m' a' w') Q) a w) : cwp ρ P (.loop c) Q a w := by
 refine wpIn_loop (fun a w => ∃ m, J m a w) (fun a w => p6 fun m => J m a w) ⟨m, h0⟩ fun a w h => ?_
 have h1 := wo h
 refine gd ?_ (round _ a w h1.1)
 intro e a' w' hq
 cases e with
 | normal =>
  obtain ⟨m', h2, h3⟩ := hq
  exact ⟨⟨m', h3⟩, Nat.lt_of_le_of_lt ((wo ⟨m', h3⟩).2 m' h3) h2⟩
 | _ => exact hq

/-- A cut: what is known is put in other words. -/
theorem yo {c : Code} {st' : St} (hl : Le st st') (h : AW ρ P c Q st') : AW ρ P c Q st := fun E w a hs => h E w a (hl E w a hs)
end

/-! ### Operations -/
/-- Whether a guarded operation is carried out. -/
def sq (ops : Array Oper) (st : St) (o : Oper) : Option Bool :=
 match o.guard with
 | none => some true
 | some (j, want) => match (ops[j]?).bind (·.dst) with
  | some d => match st.at d with
   | .v (.bool b) => some (b == want)
   | .tup [] => some false
   | _ => none
  | none => some false

def qe : Op → Bool
 | .defer _ => true
 | _ => false
/-- .. and it is no defer statement. -/
def eg (ops : Array Oper) (st : St) (o : Oper) : Option Bool := bif qe o.op then none else sq ops st o
theorem qi {ops : Array Oper} {st : St} {o : Oper} {b : Bool} (h : eg ops st o = some b) : sq ops st o = some b ∧ ∀ c, o.op ≠ .defer c := by
 unfold eg at h
 cases hd : qe o.op
 ·rw [hd] at h
  exact ⟨h, fun c e => by rw [e] at hd; cases hd⟩
 ·rw [hd] at h; cases h
theorem i7 {ops : Array Oper} {st : St} {o : Oper} {b : Bool} (h : eg ops st o = some b) {E : Env} {w : World} {a : Act} (hs : Sim E w st a) : Region.wanted o (yielded ops a.tmps) = b := by
 replace h := (qi h).1
 unfold sq at h
 unfold Region.wanted
 cases hg : o.guard with
 | none => rw [hg] at h; simpa using h
 | some p =>
  obtain ⟨j, want⟩ := p
  rw [hg] at h
  simp only at h ⊢
  unfold yielded
  cases hd : (ops[j]?).bind (·.dst) with
  | none => rw [hd] at h; simp at h; subst h; simp
  | some d =>
   rw [hd] at h
   simp only [Option.bind_some] at h ⊢
   have hr := hs.at d
   have hsz : d < a.tmps.size ∨ a.tmps.size ≤ d := Nat.lt_or_ge _ _
   rcases hsz with hsz | hsz
   ·have hv : a.tmps[d]? = some (a.tmps.getD d undef) := by simp [hsz]
    rw [hv]
    generalize a.tmps.getD d undef = v at hr
    generalize st.at d = c at h hr
    cases c with
    | v x =>
     cases hr
     cases v with
     | bool bb => simp only [Option.some.injEq] at h; subst h; cases bb <;> cases want <;> rfl
     | _ => simp at h
    | tup cs =>
     cases cs with
     | nil =>
      cases hr
      simp only [Option.some.injEq] at h
      subst h
      cases want <;> rfl
     | cons _ _ => simp at h
    | _ => simp at h
   ·have hb : Nat.blt d st.n = false := by
     rw [← hs.sz]
     cases hb : Nat.blt d a.tmps.size
     ·rfl
     ·rw [Nat.blt_eq] at hb; omega
    simp only [St.at, hb, cond_false] at h
    simp at h

/-- What yields a value in every world that keeps what is laid, and the objects of D; the world stands. -/
def Keeps (E : Env) (D : Nat → Prop) (w w' : World) : Prop :=
 (∀ b i, i < E.L b → w'.cell? ⟨b, i, none⟩ = w.cell? ⟨b, i, none⟩) ∧ ∀ n, D n → ∀ ver wv val b, E.T n = some (ver, wv, val) → blk val = some b → w'.heap[b]? = w.heap[b]?
theorem Keeps.refl (E : Env) (D : Nat → Prop) (w : World) : Keeps E D w w := ⟨fun _ _ _ => rfl, fun _ _ _ _ _ _ _ _ => rfl⟩

def SStep (P : Program) (D : Nat → Prop) (o : Oper) (st : St) (c : C) : Prop :=
 ∀ E w a, Sim E w st a → ∃ v, R E w c v ∧ ∀ w', Keeps E D w w' → (execOp a.eval o).run P w' = .ok (.value v) w'
/-- .. whatever world. -/
def NStep (P : Program) (o : Oper) (st : St) (c : C) : Prop :=
 ∀ E w a, Sim E w st a → ∃ v, R E w c v ∧ ∀ w', (execOp a.eval o).run P w' = .ok (.value v) w'
theorem NStep.s {P : Program} {D : Nat → Prop} {o : Oper} {st : St} {c : C} (h : NStep P o st c) : SStep P D o st c :=
 fun E w a hs => let ⟨v, h1, h2⟩ := h E w a hs; ⟨v, h1, fun w' _ => h2 w'⟩
/-- What changes the world. -/
def EStep (P : Program) (o : Oper) (st : St) (K : St → Prop) : Prop :=
 ∀ E w a, Sim E w st a → ∀ (Kr : Act → World → Prop) (Q : Exit → Act → World → Prop), (∀ a' w' st' E', Ev E w E' w' → Sim E' w' st' a' → K st' → Kr a' w') → o.wp P a w Kr Q

theorem EStep.mono {P : Program} {o : Oper} {st : St} {K K' : St → Prop} (h : EStep P o st K) (hk : ∀ st, K st → K' st) : EStep P o st K' :=
 fun E w a hs Kr Q hq => h E w a hs Kr Q fun a' w' st' E' h1 h2 h3 => hq a' w' st' E' h1 h2 (hk _ h3)

theorem SStep.e {P : Program} {D : Nat → Prop} {o : Oper} {st : St} {c : C} (h : SStep P D o st c) : EStep P o st (fun st' => st' = st.put o.dst c) := by
 intro E w a hs Kr Q hq
 obtain ⟨v, h1, h2⟩ := h E w a hs
 unfold Oper.wp
 rw [h2 w (Keeps.refl E D w)]
 exact hq _ _ _ _ (Ev.refl E w) (hs.put o.dst h1) rfl

/-- The operations of a region, one behind the other. -/
def el (ρ : Option Nat) (P : Program) (ops : Array Oper) (K : St → Prop) (l : List Oper) (st : St) : Prop :=
 ∀ E w a, Sim E w st a → ∀ Q : Exit → Act → World → Prop, (∀ a' w' st' E', Ev E w E' w' → Sim E' w' st' a' → K st' → Q .normal a' w') → wpListIn (fen ρ) 1 P ops Q l a w

section
variable {ρ : Option Nat} {P : Program} {ops : Array Oper} {K : St → Prop} {rest : List Oper} {o : Oper} {st : St}

theorem am (h : K st) : el ρ P ops K [] st := fun E w a hs _ hq => wpListIn_nil (hq a w st E (Ev.refl E w) hs h)

theorem av (hg : eg ops st o = some true) (h : EStep P o st (el ρ P ops K rest)) : el ρ P ops K (o :: rest) st := by
 intro E w a hs Q hq
 refine wpListIn_step fun Kr hK => ?_
 rw [if_pos (i7 hg hs)]
 refine r9 (qi hg).2 (h E w a hs Kr Q fun a' w' st' E' h1 h2 h3 => hK a' w' (h3 E' w' a' h2 Q fun a2 w2 st2 E2 q1 q2 q3 => hq a2 w2 st2 E2 (h1.trans q1) q2 q3))

theorem aa {c : C} (hg : eg ops st o = some true) (hq : SStep P (fun _ => True) o st c) (h : el ρ P ops K rest (st.put o.dst c)) : el ρ P ops K (o :: rest) st :=
 av hg (hq.e.mono fun _ e => e ▸ h)

theorem ae {c : C} (hg : eg ops st o = some true) (hq : NStep P o st c) (h : el ρ P ops K rest (st.put o.dst c)) : el ρ P ops K (o :: rest) st := aa hg hq.s h

theorem bv (hg : eg ops st o = some false) (h : el ρ P ops K rest (st.put o.dst (.tup []))) : el ρ P ops K (o :: rest) st := by
 intro E w a hs Q hq
 refine wpListIn_step fun Kr hK => ?_
 rw [if_neg (by rw [i7 hg hs]; simp)]
 exact ⟨fun _ _ => trivial, hK _ _ (h E w _ (hs.put o.dst (R.undef E w)) Q hq)⟩

theorem aq {id : Nat} {l : List Oper} {Q : Exit → St → Prop} (h : el ρ P l.toArray (Q .normal) l st) : AW ρ P (.region id l.toArray false) Q st := by
 intro E w a hs
 exact wpIn_region_lit (h E w a hs _ fun a' w' st' E' h1 h2 h3 => ⟨st', E', h1, h2, h3⟩)
end

/-! ### Calls -/
/-- What a call of a function does. -/
def PC (P : Program) (f : FuncId) (args : List C) (G : Nat → Option GObj) (nx : Nat) (K : C → (Nat → Option GObj) → Nat → Prop) : Prop :=
 ∀ E w vs, Rs E w args vs → SimG E w G nx → Calls P f vs.toArray w fun e w' => ∃ r v E' G' nx', e = .returned v ∧ Ev E w E' w' ∧ R E' w' r v ∧ SimG E' w' G' nx' ∧ K r G' nx'

/-- A call that leaves all as it was. -/
def Pure (P : Program) (f : FuncId) (args : List C) (r : C) : Prop := ∀ G nx, PC P f args G nx fun r' G' nx' => r' = r ∧ G' = G ∧ nx' = nx

theorem PC.mono {P : Program} {f : FuncId} {args : List C} {G : Nat → Option GObj} {nx : Nat} {K K' : C → (Nat → Option GObj) → Nat → Prop} (h : PC P f args G nx K) (hk : ∀ r G nx, K r G nx → K' r G nx) : PC P f args G nx K' :=
 fun E w vs h1 h2 => (h E w vs h1 h2).mono fun _ _ ⟨r, v, E', G', nx', e1, e2, e3, e4, e5⟩ => ⟨r, v, E', G', nx', e1, e2, e3, e4, hk _ _ _ e5⟩

/-- Names of G only, none new. -/
inductive C.low (m : Nat) : C → Prop
 | v {x : Value} : C.low m (.v x)
 | list {rows : List (List C)} {tok : Tok} : (∀ r ∈ rows, ∀ c ∈ r, C.low m c) → (∀ n, tok = .tip n → n < m) → C.low m (.list rows tok)
 | elem {cs : List C} : (∀ c ∈ cs, C.low m c) → C.low m (.elem cs)
 | box {n ver off : Nat} : n < m → C.low m (.box n ver off)
 | arr {n ver : Nat} : n < m → C.low m (.arr n ver)
 | own {n ver len : Nat} : n < m → C.low m (.own n ver len)
 | fn {f : Fn} {caps : List C} : (∀ c ∈ caps, C.low m c) → C.low m (.fn f caps)
 | map {n : Nat} : n < m → C.low m (.map n)
 | agg {cs : List C} : (∀ c ∈ cs, C.low m c) → C.low m (.agg cs)
 | tup {cs : List C} : (∀ c ∈ cs, C.low m c) → C.low m (.tup cs)
 | any : C.low m .any

theorem R.low {E : Env} {w : World} {c : C} {v : Value} (h : R E w c v) : c.low E.nx := by
 induction h with
 | v _ => exact .v
 | list _ _ _ _ _ _ _ _ _ h8 ih =>
  refine .list (fun r hr c hc => ?_) fun n hn => (h8 n hn).1
  obtain ⟨j, hj⟩ := List.getElem?_of_mem (List.mem_flatten.2 ⟨r, hr, hc⟩)
  exact ih j c hj
 | elem _ _ _ _ ih => exact .elem fun c hc => let ⟨j, hj⟩ := List.getElem?_of_mem hc; ih j c hj
 | box h _ => exact .box h
 | arr h _ _ _ => exact .arr h
 | own h _ _ _ => exact .own h
 | fn _ _ _ ih => exact .fn fun c hc => let ⟨j, hj⟩ := List.getElem?_of_mem hc; ih j c hj
 | map h _ => exact .map h
 | agg _ _ _ _ ih => exact .agg fun c hc => let ⟨j, hj⟩ := List.getElem?_of_mem hc; ih j c hj
 | tup _ _ _ ih => exact .tup fun c hc => let ⟨j, hj⟩ := List.getElem?_of_mem hc; ih j c hj
 | any => exact .any

theorem Rs.low {E : Env} {w : World} {cs : List C} {vs : List Value} (h : Rs E w cs vs) : ∀ c ∈ cs, C.low E.nx c := by
 intro c hc
 obtain ⟨j, hj⟩ := List.getElem?_of_mem hc
 have hlt : j < vs.length := by rw [h.1]; exact (List.getElem?_eq_some_iff.1 hj).1
 exact (h.2 j c _ hj (List.getElem?_eq_getElem hlt)).low

/-- Names from m on are dropped. -/
def Env.drop (E : Env) (m : Nat) : Env := { E with T := fun k => if k < m then E.T k else none, nx := m }

theorem R.drop {E : Env} {w : World} {m : Nat} {c : C} {v : Value} (h : R E w c v) (hl : c.low m) : R (E.drop m) w c v := by
 have hT : ∀ n t, (E.drop m).T n = some t → E.T n = some t := fun n t ht => by
  simp only [Env.drop] at ht
  split at ht
  ·exact ht
  ·cases ht
 induction h with
 | v hx => exact .v hx
 | list h1 h2 h3 h4 h5 h6 _ z1 z2 h8 ih =>
  cases hl with
  | list l1 l2 =>
  refine .list h1 h2 h3 h4 h5 h6 (fun j c hj => ih j c hj ?_) z1 z2 fun n hn => ⟨l2 n hn, fun ver wv val ht => (h8 n hn).2 _ _ _ (hT _ _ ht)⟩
  obtain ⟨r, hr, hc⟩ := List.mem_flatten.1 (List.mem_of_getElem? hj)
  exact l1 r hr c hc
 | elem h1 h2 h3 _ ih =>
  cases hl with
  | elem l1 => exact .elem h1 h2 h3 fun j c hj => ih j c hj (l1 c (List.mem_of_getElem? hj))
 | box _ h2 => cases hl with | box l => exact .box l fun ver' wv val ht => h2 _ _ _ (hT _ _ ht)
 | arr _ q1 q2 h2 => cases hl with | arr l => exact .arr l q1 q2 fun ver' wv val ht => h2 _ _ _ (hT _ _ ht)
 | own _ q1 q2 h2 => cases hl with | own l => exact .own l q1 q2 fun ver' wv val ht => h2 _ _ _ (hT _ _ ht)
 | fn h1 _ h3 ih => cases hl with | fn l => exact .fn h1 (fun j c hj => ih j c hj (l c (List.mem_of_getElem? hj))) h3
 | map _ h2 => cases hl with | map l => exact .map l fun ver wv val ht => h2 _ _ _ (hT _ _ ht)
 | agg h1 h2 _ h4 ih => cases hl with | agg l => exact .agg h1 h2 (fun j c hj => ih j c hj (l c (List.mem_of_getElem? hj))) h4
 | tup h1 _ h3 ih => cases hl with | tup l => exact .tup h1 (fun j c hj => ih j c hj (l c (List.mem_of_getElem? hj))) h3
 | any => exact .any

def GObj.low (m : Nat) : GObj → Prop
 | .box _ cs => ∀ c ∈ cs, C.low m c
 | .arr _ _ _ _ _ cs => ∀ c ∈ cs, C.low m c
 | .tip _ _ _ => True
 | .fact _ c => C.low m c
 | .map _ _ f => ∀ x c, f x = some c → C.low m c
 | .raw _ _ => True

theorem Rs.drop {E : Env} {w : World} {m : Nat} {cs : List C} {vs : List Value} (h : Rs E w cs vs) (hl : ∀ c ∈ cs, C.low m c) : Rs (E.drop m) w cs vs :=
 ⟨h.1, fun j c v h1 h2 => (h.2 j c v h1 h2).drop (hl c (List.mem_of_getElem? h1))⟩

theorem SimG.drop {E : Env} {w : World} {G : Nat → Option GObj} {nx m : Nat} (h : SimG E w G nx) (hm : ∀ n o, G n = some o → n < m ∧ o.low m) : SimG (E.drop m) w G m := by
 have hT : ∀ n t, (E.drop m).T n = some t → E.T n = some t := fun n t ht => by
  simp only [Env.drop] at ht
  split at ht
  ·exact ht
  ·cases ht
 have hT' : ∀ n, n < m → (E.drop m).T n = E.T n := fun n hn => by simp only [Env.drop]; rw [if_pos hn]
 refine ⟨rfl, fun n o ho => ?_, fun n t ht => ?_, fun n ver wv val b ht hb => h.tb n ver wv val b (hT _ _ ht) hb, fun n k t t' b h1 h2 hne hb => h.ap n k t t' b (hT _ _ h1) (hT _ _ h2) hne hb, h.fresh, h.base⟩
 ·obtain ⟨hn, hlow⟩ := hm n o ho
  have := h.obj n o ho
  cases o with
  | fact v c => exact ⟨(hT' n hn).trans this.1, this.2.drop hlow⟩
  | raw wv o => obtain ⟨b, h1, h2, h3⟩ := this; exact ⟨b, (hT' n hn).trans h1, h2, h3⟩
  | map wv ok f =>
   obtain ⟨r, es, clock, h1, h2, h3, h4⟩ := this
   exact ⟨r, es, clock, (hT' n hn).trans h1, h2, h3.imp fun x c _ hx hr => hr.drop (hlow x c hx), h4⟩
  | box wv cs =>
   obtain ⟨b, us, tt, h1, h2, h3, h4, h5⟩ := this
   exact ⟨b, us, tt, (hT' n hn).trans h1, h2, h3, h4.drop hlow, h5⟩
  | arr ver wv tt sz len cs =>
   obtain ⟨val, us, h1, h2, h3, h4, h5, h6⟩ := this
   exact ⟨val, us, (hT' n hn).trans h1, h2, h3, h4.drop hlow, h5, h6⟩
  | tip len tt sz =>
   obtain ⟨val, us, h1, h2, h5, h6⟩ := this
   exact ⟨val, us, (hT' n hn).trans h1, h2, h5, h6⟩
 ·simp only [Env.drop] at ht ⊢
  split at ht
  ·assumption
  ·cases ht

theorem Ev.drop {E E' : Env} {w w' : World} (h : Ev E w E' w') {m : Nat} (hm : E.nx ≤ m) : Ev E w (E'.drop m) w' := by
 have hT' : ∀ n, n < m → (E'.drop m).T n = E'.T n := fun n hn => by simp only [Env.drop]; rw [if_pos hn]
 exact ⟨h.below, h.B, h.L, h.cell, hm, fun n hn ver' wv' val' ht => h.T n hn ver' wv' val' (by rw [← hT' n (by omega)]; exact ht), fun n ver wv wv' val h1 h2 hn => h.wv n ver wv wv' val h1 (by rw [← hT' n (by omega)]; exact h2) hn, ⟨h.x.F, h.x.lc, h.x.oth, h.x.ic, fun n t' b o ht hb ho => h.x.nb n t' b o (by
  simp only [Env.drop] at ht
  split at ht
  ·exact ht
  ·cases ht) hb ho, fun n t t' b hn h1 h2 hv hb => h.x.mv n t t' b hn h1 (by rw [← hT' n (by omega)]; exact h2) hv hb⟩⟩

/-- What a frame gives back. -/
def l9 (P : Program) (fn : Func) (st : St) (r : C) : Prop := ∀ E w (a : Act), Sim E w { st with df := 0 } a → ∃ v, (results fn a.tmps).run P w = .ok v w ∧ R E w r v

theorem Sim.start {E : Env} {w : World} {args : List C} {vs : List Value} {G : Nat → Option GObj} {nx : Nat} (h : Rs E w args vs) (hg : SimG E w G nx) (hF : E.F ≤ w.heap.size) (n : Nat) :
  Sim E w { n := args.length + (n - args.length), l := args, r := [], G := G, nx := nx } { tmps := vs.toArray ++ Array.replicate (n - vs.toArray.size) undef, defers := [] } := by
 refine ⟨⟨hF, rfl⟩, by simp [h.1], fun i v hv => ?_, hg⟩
 simp only [cq]
 rw [List.getD_eq_getElem?_getD]
 rw [Array.getElem?_append] at hv
 simp only [List.size_toArray, List.getElem?_toArray, h.1] at hv
 split at hv
 ·rename_i hlt
  rw [List.getElem?_eq_getElem hlt]
  exact h.2 i _ v (List.getElem?_eq_getElem hlt) hv
 ·rename_i hlt
  rw [List.getElem?_eq_none (by omega)]
  exact .any

theorem SimG.reF {E : Env} {w : World} {G : Nat → Option GObj} {nx : Nat} (h : SimG E w G nx) (F : Nat) : SimG { E with F := F } w G nx := by
 have hr : ∀ {cs : List C} {vs : List Value}, Rs E w cs vs → Rs { E with F := F } w cs vs := fun hr => hr.same (E := E) (E' := { E with F := F }) (fun _ => Nat.le_refl _) (fun _ _ _ => rfl) rfl rfl
 refine ⟨h.nx, fun n o ho => ?_, h.lt, h.tb, h.ap, h.fresh, h.base⟩
 have hr1 : ∀ {c : C} {v : Value}, R E w c v → R { E with F := F } w c v := fun hr => hr.same (E := E) (E' := { E with F := F }) (fun _ => Nat.le_refl _) (fun _ _ _ => rfl) rfl rfl
 have := h.obj n o ho
 cases o with
 | fact v c => exact ⟨this.1, hr1 this.2⟩
 | raw wv o => exact this
 | map wv ok f =>
  obtain ⟨r, es, clock, h1, h2, h3, h4⟩ := this
  exact ⟨r, es, clock, h1, h2, h3.imp fun _ _ _ _ hr => hr1 hr, h4⟩
 | box wv cs =>
  obtain ⟨b, us, tt, h1, h2, h3, h4, h5⟩ := this
  exact ⟨b, us, tt, h1, h2, h3, hr h4, h5⟩
 | arr ver wv tt sz len cs =>
  obtain ⟨val, us, h1, h2, h3, h4, h5, h6⟩ := this
  exact ⟨val, us, h1, h2, h3, hr h4, h5, h6⟩
 | tip len tt sz => exact this
theorem Ev.reF {E E' : Env} {w w' : World} {F : Nat} (h : Ev { E with F := F } w E' w') : Ev E w { E' with F := E.F } w' :=
 ⟨h.below, h.B, h.L, h.cell, h.nx, h.T, h.wv, ⟨rfl, h.x.lc, h.x.oth, h.x.ic, h.x.nb, h.x.mv⟩⟩

/-- The marks of ranges over functions are taken in. -/
def Shut (F : Nat) (T : Nat → Option (Nat × Nat × Value)) (w w' : World) : Prop :=
 (w'.os = w.os ∧ w'.tape = w.tape ∧ w'.output = w.output) ∧ w'.heap.size = w.heap.size ∧ (∀ b : Nat, b < F → w'.heap[b]? = w.heap[b]?) ∧ (∀ (b : Nat) (o : Obj), w.heap[b]? = some o → o.isCells = true → w'.heap[b]? = some o) ∧
 (∀ (b : Nat) (o : Obj), w.heap[b]? = some o → o.isCells = false → ∃ o' : Obj, w'.heap[b]? = some o' ∧ o'.isCells = false) ∧ ∀ n t b, T n = some t → blk t.2.2 = some b → w'.heap[b]? = w.heap[b]?
theorem Shut.refl (F : Nat) (T : Nat → Option (Nat × Nat × Value)) (w : World) : Shut F T w w := ⟨⟨rfl, rfl, rfl⟩, rfl, fun _ _ => rfl, fun _ _ h _ => h, fun _ o h k => ⟨o, h, k⟩, fun _ _ _ _ _ => rfl⟩
theorem vk (w : World) (D b : Nat) (o : Obj) (h : b ≠ D) : (w.putObj D o).heap[b]? = w.heap[b]? := by
 simp [World.putObj, Ne.symm h]
theorem wa {P : Program} {fn : Func} {tmps : Array Value} {R : Ending → World → Prop} {E : Env} : ∀ (ds : List Deferred) (w : World), DefOk E w ds →
  (∀ w', Shut E.F E.T w w' → LeavesIn (fen none) 1 P fn tmps R [] .returning w') → LeavesInM (fen none) 1 P fn tmps R ds .returning w
 | [], w, _, h => h w (Shut.refl _ _ _)
 | d :: ds, w, ⟨⟨D, e, hF, hD, hu, hn⟩, k⟩, h => by
  subst e
  have hlt : D < w.heap.size := (Array.getElem?_eq_some_iff.1 hD).1
  refine ⟨by simp, .inl ⟨D, w.putObj D (.deferred none), rfl, run_takeDeferred hD, wa (E := E) ds _ ?_ fun w' hs => h w' ?_⟩⟩
  ·-- the others stand
   have : ∀ {es : List Deferred}, (∀ d' ∈ es, d'.target ≠ .collected D) → DefOk E w es → DefOk E (w.putObj D (.deferred none)) es := by
    intro es
    induction es with
    | nil => exact fun _ h => by simpa [DefOk, World.putObj] using h
    | cons d' es ih =>
     rintro hne ⟨⟨D', e', h1, h2, h3, h4⟩, h5⟩
     refine ⟨⟨D', e', h1, ?_, h3, h4⟩, ih (fun d'' hd => hne d'' (List.mem_cons_of_mem _ hd)) h5⟩
     rw [vk _ _ _ _ (fun ee => hne d' (List.mem_cons_self ..) (by rw [e', ee]))]
     exact h2
   exact this hn k
  ·obtain ⟨h1, h2, h3, h4, h5, h6⟩ := hs
   have hsz : (w.putObj D (.deferred none)).heap.size = w.heap.size := by simp [World.putObj]
   have hoth : ∀ b, b ≠ D → (w.putObj D (.deferred none)).heap[b]? = w.heap[b]? := fun b hb => vk _ _ _ _ hb
   refine ⟨⟨h1.1, h1.2.1, h1.2.2⟩, h2.trans hsz, fun b hb => (h3 b hb).trans (hoth b (by omega)), fun b o ho hc => h4 b o ((hoth b fun e => ?_).trans ho) hc, fun b o ho hc => ?_, fun n t b ht hb => (h6 n t b ht hb).trans (hoth b fun e => hu n t ht (e ▸ hb))⟩
   ·subst e; rw [hD] at ho; cases ho; cases hc
   ·by_cases e : b = D
    ·subst e
     exact h5 b (.deferred none) (by simp [World.putObj, hlt]) rfl
    ·exact h5 b o ((hoth b e).trans ho) hc
theorem Shut.cell {F : Nat} {T : Nat → Option (Nat × Nat × Value)} {w w' : World} (h : Shut F T w w') (b i : Nat) : w'.cell? ⟨b, i, none⟩ = w.cell? ⟨b, i, none⟩ := by
 unfold World.cell?
 dsimp only
 cases ho : w.heap[b]? with
 | none =>
  have : w'.heap[b]? = none := by
   rw [Array.getElem?_eq_none_iff] at ho ⊢
   rw [h.2.1]; exact ho
  rw [this]
 | some o =>
  cases hc : o.isCells with
  | true => rw [h.2.2.2.1 b o ho hc]
  | false =>
   obtain ⟨o', h1, h2⟩ := h.2.2.2.2.1 b o ho hc
   rw [h1]
   cases o <;> cases o' <;> first | rfl | (simp [Obj.isCells] at h2; done) | (simp [Obj.isCells] at hc; done)

/-- A function's contract out of its body's walk. -/
theorem r7 {P : Program} {f : FuncId} {fn : Func} {c : Code} {args : List C} {G : Nat → Option GObj} {nx : Nat} {K : C → (Nat → Option GObj) → Nat → Prop} (hf : P.funcs[f]? = some fn) (hb : fn.body = some c)
  (h : AW none P c (fun e st => match e with | .normal | .ret => ∃ r, l9 P fn st r ∧ K r st.G st.nx | _ => False) { n := args.length + (fn.ntmps - args.length), l := args, r := [], G := G, nx := nx }) : PC P f args G nx K := by
 intro E w vs hr hg
 have hr1 : Rs { E with F := w.heap.size } w args vs := hr.same (E := E) (E' := { E with F := w.heap.size }) (fun _ => Nat.le_refl _) (fun _ _ _ => rfl) rfl rfl
 have hg1 := hg.reF w.heap.size
 refine callsIn_wide.1 (callsIn_of_wp_marks (F := fen none) hf hb trivial (wpIn_mono (h { E with F := w.heap.size } w _ (Sim.start hr1 hg1 (Nat.le_refl _) fn.ntmps)) ?_))
 have fin : ∀ (a' : Act) (w' : World) (st' : St) (E' : Env), Ev { E with F := w.heap.size } w E' w' → Sim E' w' st' a' → (∃ r, l9 P fn st' r ∧ K r st'.G st'.nx) →
   LeavesInM (fen none) 1 P fn a'.tmps (fun e w' => ∃ r v E' G' nx', e = .returned v ∧ Ev E w E' w' ∧ R E' w' r v ∧ SimG E' w' G' nx' ∧ K r G' nx') a'.defers .returning w' := by
  intro a' w' st' E' h1 h2 ⟨r, hres, hk⟩
  refine wa a'.defers w' h2.d.1 fun w2 hs => ?_
  have hF : E'.F = w.heap.size := h1.x.F
  have hc := hs.cell
  have hrr : ∀ {c : C} {v : Value}, R E' w' c v → R E' w2 c v := fun hr => hr.same (fun _ => Nat.le_refl _) (fun b i _ => hc b i) rfl rfl
  have hrs : ∀ {c : List C} {v : List Value}, Rs E' w' c v → Rs E' w2 c v := fun hr => hr.same (fun _ => Nat.le_refl _) (fun b i _ => hc b i) rfl rfl
  have hg2 : SimG E' w2 st'.G st'.nx := by
   refine ⟨h2.g.nx, fun n o ho => ?_, h2.g.lt, fun n ver wv val b h3 h4 => by rw [hs.2.1]; exact h2.g.tb n ver wv val b h3 h4, h2.g.ap, fun b hb => h2.g.fresh b (by rw [← hs.2.1]; exact hb), by rw [hs.2.1]; exact h2.g.base⟩
   have := h2.g.obj n o ho
   cases o with
   | fact v c => exact ⟨this.1, hrr this.2⟩
   | raw wv o => obtain ⟨b, q1, q2, q3⟩ := this; exact ⟨b, q1, (hs.2.2.2.2.2 n _ b q1 rfl).trans q2, q3⟩
   | map wv ok f =>
    obtain ⟨r, es, clock, q1, q2, q3, q4⟩ := this
    exact ⟨r, es, clock, q1, (hs.2.2.2.2.2 n _ r q1 rfl).trans q2, q3.imp fun _ _ _ _ hr => hrr hr, q4⟩
   | box wv cs =>
    obtain ⟨b, us, tt, q1, q2, q3, q4, q5⟩ := this
    exact ⟨b, us, tt, q1, (hs.2.2.2.2.2 n _ b q1 rfl).trans q2, q3, hrs q4, q5⟩
   | arr ver wv tt sz len cs =>
    obtain ⟨val, us, q1, q2, q3, q4, q5, q6⟩ := this
    refine ⟨val, us, q1, ⟨q2.1, ?_⟩, q3, hrs q4, q5, q6⟩
    rcases q2.2 with q2 | ⟨g, cap, cur, rfl, hg, hgg, rest⟩
    ·exact .inl q2
    ·exact .inr ⟨g, cap, cur, rfl, hg, (hs.2.2.2.2.2 n _ g q1 rfl).trans hgg, rest⟩
   | tip len tt sz =>
    obtain ⟨val, us, q1, q2, q5, q6⟩ := this
    refine ⟨val, us, q1, ⟨q2.1, ?_⟩, q5, q6⟩
    rcases q2.2 with q2 | ⟨g, cap, cur, rfl, hg, hgg, rest⟩
    ·exact .inl q2
    ·exact .inr ⟨g, cap, cur, rfl, hg, (hs.2.2.2.2.2 n _ g q1 rfl).trans hgg, rest⟩
  obtain ⟨v, hv, hrv⟩ := hres E' w2 { tmps := a'.tmps, defers := [] } ⟨⟨by show E'.F ≤ w2.heap.size; rw [hs.2.1]; exact h2.d.F, rfl⟩, h2.sz, fun i v hv => hrr (h2.t i v hv), hg2⟩
  have hBF : E.B ≤ w.heap.size := hg.base
  have hev2 : Ev { E with F := w.heap.size } w E' w2 := by
   have hlt : ∀ b, b < w.heap.size → w2.heap[b]? = w'.heap[b]? := fun b hb => hs.2.2.1 b (by rw [hF]; exact hb)
   refine ⟨⟨hs.1.1.trans h1.below.os, hs.1.2.1.trans h1.below.tape, hs.1.2.2.trans h1.below.output, by rw [hs.2.1]; exact h1.below.size, fun k hk => (hlt k (Nat.lt_of_lt_of_le hk hBF)).trans (h1.below.block k hk)⟩, h1.B, h1.L, fun b i hi => (hc b i).trans (h1.cell b i hi), h1.nx, fun n hn ver' wv' val' h3 => ?_, h1.wv,
    ⟨h1.x.F, fun b hb => ?_, fun b o ho hu => (hlt b (Array.getElem?_eq_some_iff.1 ho).1).trans (h1.x.oth b o ho hu), fun b o ho => ?_, h1.x.nb, fun n t t' b hn q1 q2 q3 q4 => ?_⟩⟩
   ·obtain ⟨ver, wv, val, q1, q2, q3⟩ := h1.T n hn _ _ _ h3
    refine ⟨ver, wv, val, q1, q2, fun e => ⟨(q3 e).1, fun e2 b hb => ?_⟩⟩
    exact (hlt b (hg.tb n _ _ _ b q1 hb).2).trans ((q3 e).2 e2 b hb)
   ·obtain ⟨v, hv⟩ := h1.x.lc b hb
    exact ⟨v, (hc b 0).trans hv⟩
   ·rw [hlt b (Array.getElem?_eq_some_iff.1 ho).1]
    exact h1.x.ic b o ho
   ·obtain ⟨o, q5, q6⟩ := h1.x.mv n t t' b hn q1 q2 q3 q4
    exact ⟨o, hs.2.2.2.1 b o q5 q6, q6⟩
  refine ⟨v, hv, r, v, { E' with F := E.F }, st'.G, st'.nx, rfl, hev2.reF, hrv.same (E := E') (E' := { E' with F := E.F }) (fun _ => Nat.le_refl _) (fun _ _ _ => rfl) rfl rfl, hg2.reF E.F, hk⟩
 rintro e a' w' ⟨st', E', h1, h2, h3⟩
 cases e with
 | normal => exact fin a' w' st' E' h1 h2 h3
 | ret => exact fin a' w' st' E' h1 h2 h3
 | _ => exact h3.elim

/-- The end of the body of a function that leaves all as it was. -/
def l5 (P : Program) (fn : Func) (r : C) (G : Nat → Option GObj) (nx : Nat) (e : Exit) (st : St) : Prop :=
 match e with
 | .normal | .ret => l9 P fn st r ∧ nx ≤ st.nx ∧ ∀ n o, G n = some o → st.G n = some o
 | _ => False

theorem uba {P : Program} {f : FuncId} {fn : Func} {c : Code} {args : List C} {r : C} {G : Nat → Option GObj} {nx : Nat} (hf : P.funcs[f]? = some fn) (hb : fn.body = some c) (hl : ∀ m, r.low m)
  (h : AW none P c (l5 P fn r G nx) { n := args.length + (fn.ntmps - args.length), l := args, r := [], G := G, nx := nx }) : PC P f args G nx fun r' G' nx' => r' = r ∧ G' = G ∧ nx' = nx := by
 intro E w vs hr hg
 have hT := hg.obj
 have key := r7 (K := fun r' G' nx' => r' = r ∧ nx ≤ nx' ∧ ∀ n o, G n = some o → G' n = some o) hf hb (AW.mono h fun e st hq => by
  cases e with
  | normal => exact ⟨r, hq.1, rfl, hq.2.1, hq.2.2⟩
  | ret => exact ⟨r, hq.1, rfl, hq.2.1, hq.2.2⟩
  | _ => exact hq)
 refine (key E w vs hr hg).mono ?_
 rintro e w' ⟨r', v, E', G', nx', e1, e2, e3, e4, rfl, e5, e6⟩
 have hnx := hg.nx
 refine ⟨r', v, E'.drop nx, G, nx, e1, e2.drop (by omega), e3.drop (hl nx), ?_, rfl, rfl, rfl⟩
 refine (e4.weak e6).drop fun n o ho => ⟨?_, ?_⟩
 ·have := hg.obj n o ho
  have hlt : ∀ t, E.T n = some t → n < nx := fun t ht => by have := hg.lt n t ht; omega
  cases o with
  | box => obtain ⟨b, us, tt, h1, _⟩ := this; exact hlt _ h1
  | arr => obtain ⟨b, us, h1, _⟩ := this; exact hlt _ h1
  | tip => obtain ⟨b, us, h1, _⟩ := this; exact hlt _ h1
  | fact => exact hlt _ this.1
  | raw => obtain ⟨b, h1, _⟩ := this; exact hlt _ h1
  | map => obtain ⟨r, es, cl, h1, _⟩ := this; exact hlt _ h1
 ·have := hg.obj n o ho
  cases o with
  | box => obtain ⟨b, us, tt, _, _, _, h4, _⟩ := this; exact hnx ▸ h4.low
  | arr => obtain ⟨b, us, _, _, _, h4, _⟩ := this; exact hnx ▸ h4.low
  | tip => trivial
  | fact => exact hnx ▸ this.2.low
  | raw => trivial
  | map wv ok f =>
   obtain ⟨r, es, cl, _, _, h3, _⟩ := this
   intro x c hx
   obtain ⟨e, he, rfl⟩ := h3.has x c hx
   obtain ⟨c', h4, h5⟩ := h3.val e he
   rw [hx] at h4; cases h4
   exact hnx ▸ h5.low

theorem cx {P : Program} {f : FuncId} {fn : Func} {c : Code} {args : List C} {r : C} (hf : P.funcs[f]? = some fn) (hb : fn.body = some c) (hl : ∀ m, r.low m)
  (h : ∀ (G : Nat → Option GObj) (nx : Nat), AW none P c (l5 P fn r G nx) { n := args.length + (fn.ntmps - args.length), l := args, r := [], G := G, nx := nx }) : Pure P f args r :=
 fun G nx => uba hf hb hl (h G nx)
end Go.AB
namespace Go.AB
open Go Go.RowKit

/-! ### Facts on types -/
def rf (P : Program) (t : TypeId) (agg : Bool) (n : Nat) : Bool :=
 match P.underlying t, P.info? t with
 | some d, some i => (d.isRow == agg) && (i.size == n)
 | _, _ => false
class Ty (P : Program) (t : TypeId) (agg : outParam Bool) (n : outParam Nat) : Prop where
 chk : rf P t agg n = true
def xh (P : Program) (t : TypeId) (f off : Nat) (ft : TypeId) : Bool :=
 match P.underlying t with
 | some (.struct fs) => match fs[f]? with
  | some fd => fd.offset == off && fd.type == ft && (match P.info? ft with | some i => i.size != 0 | none => false)
  | none => false
 | _ => false
class Fld (P : Program) (t : TypeId) (f : Nat) (off : outParam Nat) (ft : outParam TypeId) : Prop where
 chk : xh P t f off ft = true
def xr (P : Program) (t e : TypeId) : Bool := match P.underlying t with | some (.slice e') => e' == e | _ => false
class Elt (P : Program) (t : TypeId) (e : outParam TypeId) : Prop where
 chk : xr P t e = true
def y1 (P : Program) (t : TypeId) (n : Nat) (e : TypeId) : Bool := match P.underlying t with | some (.array n' e') => n' == n && e' == e | _ => false
class ArrT (P : Program) (t : TypeId) (n : outParam Nat) (e : outParam TypeId) : Prop where
 chk : y1 P t n e = true

section
variable {P : Program} {w : World} {t e ft : TypeId} {n f off : Nat} {ag : Bool}
theorem Ty.size [h : Ty P t ag n] : (sizeOf t).run P w = .ok n w := by
 have := h.chk
 unfold rf at this
 split at this
 ·rename_i d i hd hi
  simp only [Bool.and_eq_true, beq_iff_eq] at this
  simp [sizeOf, typeInfo, hi, this.2]
 ·cases this
theorem Ty.row [h : Ty P t ag n] : (isAgg t).run P w = .ok ag w := by
 have := h.chk
 unfold rf at this
 split at this
 ·rename_i d i hd hi
  simp only [Bool.and_eq_true, beq_iff_eq] at this
  unfold isAgg
  rw [Sem.run_bind, run_underlying hd w]
  cases d <;> simp_all
 ·cases this
theorem Fld.spec [h : Fld P t f off ft] : ∃ fs fd, P.underlying t = some (.struct fs) ∧ fs[f]? = some fd ∧ fd.offset = off ∧ fd.type = ft ∧ ∀ w : World, ∃ k, (sizeOf ft).run P w = .ok (k + 1) w := by
 have := h.chk
 unfold xh at this
 split at this
 ·rename_i fs hfs
  split at this
  ·rename_i fd hfd
   simp only [Bool.and_eq_true, beq_iff_eq] at this
   obtain ⟨⟨h1, h2⟩, h3⟩ := this
   refine ⟨fs, fd, hfs, hfd, h1, h2, fun w => ?_⟩
   split at h3
   ·rename_i i hi
    refine ⟨i.size - 1, ?_⟩
    simp only [bne_iff_ne, ne_eq] at h3
    rw [show i.size - 1 + 1 = i.size by omega]
    simp [sizeOf, typeInfo, hi]
   ·cases h3
  ·cases this
 ·cases this
theorem Elt.spec [h : Elt P t e] : P.underlying t = some (.slice e) := by
 have := h.chk
 unfold xr at this
 split at this
 ·rename_i hd; rw [hd]; simp only [beq_iff_eq] at this; rw [this]
 ·cases this
theorem ArrT.spec [h : ArrT P t n e] : P.underlying t = some (.array n e) := by
 have := h.chk
 unfold y1 at this
 split at this
 ·rename_i hd; rw [hd]; simp only [Bool.and_eq_true, beq_iff_eq] at this; rw [this.1, this.2]
 ·cases this
end

/-! ### Values -/
section
variable {E : Env} {w : World}
theorem R.v_inv {x v : Value} (h : R E w (.v x) v) : v = x := by cases h; rfl
theorem R.agg_inv {cs : List C} {v : Value} (h : R E w (.agg cs) v) : ∃ vs : List Value, v = .agg vs.toArray ∧ Rs E w cs vs ∧ ∀ c ∈ cs, c.one = true := by
 cases h with
 | @agg _ us vs h1 h2 h3 h4 =>
  refine ⟨vs.toList, by simp, ⟨by simpa using h1, fun j c v hc hv => ?_⟩, h2⟩
  have hlt := (List.getElem?_eq_some_iff.1 hc).1
  have := h4 j hlt
  rw [Array.getElem?_toList, this] at hv
  simp only [Option.some.injEq] at hv
  exact hv ▸ h3 j c hc
theorem R.tup_inv {cs : List C} {v : Value} (h : R E w (.tup cs) v) : ∃ vs : List Value, v = .tuple vs.toArray ∧ Rs E w cs vs := by
 cases h with
 | @tup _ us vs h1 h3 h4 =>
  refine ⟨vs.toList, by simp, ⟨by simpa using h1, fun j c v hc hv => ?_⟩⟩
  have hlt := (List.getElem?_eq_some_iff.1 hc).1
  have := h4 j hlt
  rw [Array.getElem?_toList, this] at hv
  simp only [Option.some.injEq] at hv
  exact hv ▸ h3 j c hc
theorem R.fn_inv {f : Fn} {cs : List C} {v : Value} (h : R E w (.fn f cs) v) : ∃ vs : List Value, v = .func f #[] vs.toArray ∧ Rs E w cs vs := by
 cases h with
 | @fn _ _ us vs h1 h3 h4 =>
  refine ⟨vs.toList, by simp, ⟨by simpa using h1, fun j c v hc hv => ?_⟩⟩
  have hlt := (List.getElem?_eq_some_iff.1 hc).1
  have := h4 j hlt
  rw [Array.getElem?_toList, this] at hv
  simp only [Option.some.injEq] at hv
  exact hv ▸ h3 j c hc

theorem Rs.us {cs : List C} {vs : List Value} (h : Rs E w cs vs) : (∀ j c, cs[j]? = some c → R E w c (vs.getD j undef)) ∧ ∀ j, j < cs.length → vs[j]? = some (vs.getD j undef) := by
 refine ⟨fun j c hc => ?_, fun j hj => ?_⟩
 ·have hlt : j < vs.length := by rw [h.1]; exact (List.getElem?_eq_some_iff.1 hc).1
  rw [List.getD_eq_getElem?_getD, List.getElem?_eq_getElem hlt]
  exact h.2 j c _ hc (List.getElem?_eq_getElem hlt)
 ·have hlt : j < vs.length := by rw [h.1]; exact hj
  rw [List.getD_eq_getElem?_getD, List.getElem?_eq_getElem hlt]
  rfl
theorem Rs.agg {cs : List C} {vs : List Value} (h : Rs E w cs vs) (h1 : ∀ c ∈ cs, c.one = true) : R E w (.agg cs) (.agg vs.toArray) :=
 .agg (us := fun j => vs.getD j undef) (by simp [h.1]) h1 h.us.1 (fun j hj => by simpa using h.us.2 j hj)
theorem Rs.tup {cs : List C} {vs : List Value} (h : Rs E w cs vs) : R E w (.tup cs) (.tuple vs.toArray) :=
 .tup (us := fun j => vs.getD j undef) (by simp [h.1]) h.us.1 (fun j hj => by simpa using h.us.2 j hj)
theorem Rs.fn {f : Fn} {cs : List C} {vs : List Value} (h : Rs E w cs vs) : R E w (.fn f cs) (.func f #[] vs.toArray) :=
 .fn (us := fun j => vs.getD j undef) (by simp [h.1]) h.us.1 (fun j hj => by simpa using h.us.2 j hj)

theorem R.one {c : C} {v : Value} (h : R E w c v) (h1 : c.one = true) : v.oneCell' = true := by
 cases h <;> first | (apply vx; assumption) | rfl | cases h1

theorem Rs.take {cs : List C} {vs : List Value} (h : Rs E w cs vs) (n : Nat) : Rs E w (cs.take n) (vs.take n) := by
 refine ⟨by simp [h.1], fun j c v hc hv => ?_⟩
 rw [List.getElem?_take] at hc hv
 split at hc
 ·rename_i hj; rw [if_pos hj] at hv; exact h.2 j c v hc hv
 ·cases hc
theorem Rs.dropn {cs : List C} {vs : List Value} (h : Rs E w cs vs) (n : Nat) : Rs E w (cs.drop n) (vs.drop n) := by
 refine ⟨by simp [h.1], fun j c v hc hv => ?_⟩
 rw [List.getElem?_drop] at hc hv
 exact h.2 _ c v hc hv
theorem Rs.append {cs ds : List C} {vs us : List Value} (h : Rs E w cs vs) (k : Rs E w ds us) : Rs E w (cs ++ ds) (vs ++ us) := by
 refine ⟨by simp [h.1, k.1], fun j c v hc hv => ?_⟩
 rw [List.getElem?_append] at hc hv
 rw [h.1] at hv
 split at hc
 ·rename_i hj; rw [if_pos hj] at hv; exact h.2 j c v hc hv
 ·rename_i hj; rw [if_neg hj] at hv; exact k.2 _ c v hc hv
theorem Rs.nil : Rs E w [] [] := ⟨rfl, fun j c v h => by simp at h⟩
theorem Rs.cons {c : C} {v : Value} {cs : List C} {vs : List Value} (h : R E w c v) (k : Rs E w cs vs) : Rs E w (c :: cs) (v :: vs) := by
 refine ⟨by simp [k.1], fun j d u hd hu => ?_⟩
 cases j with
 | zero => simp at hd hu; subst hd; subst hu; exact h
 | succ j => simp at hd hu; exact k.2 j d u hd hu

/-- An address in what is laid. -/
theorem R.elem_inv {cs : List C} {v : Value} (h : R E w (.elem cs) v) : ∃ (b off : Nat) (us : Nat → Value), v = .pointer (some ⟨b, off, none⟩) ∧ off + cs.length ≤ E.L b ∧ (∀ j, j < cs.length → w.cell? ⟨b, off + j, none⟩ = some (us j)) ∧ (∀ j c, cs[j]? = some c → R E w c (us j)) ∧ (∀ c ∈ cs, c.one = true) ∧ cs ≠ [] := by
 cases h with
 | @elem _ b off us h1 h2 h3 h4 =>
  rcases h3 with h3 | ⟨b', off', e, h3, h5⟩
  ·exact (h1 (List.eq_nil_of_length_eq_zero h3)).elim
  ·simp only [Option.some.injEq, Addr.mk.injEq, and_true] at e
   obtain ⟨rfl, rfl⟩ := e
   exact ⟨b, off, us, rfl, h3, h5, h4, h2, h1⟩
theorem R.elem_drop {cs : List C} {b off : Nat} {us : Nat → Value} (h1 : off + cs.length ≤ E.L b) (h2 : ∀ j, j < cs.length → w.cell? ⟨b, off + j, none⟩ = some (us j)) (h3 : ∀ j c, cs[j]? = some c → R E w c (us j)) (h4 : ∀ c ∈ cs, c.one = true) (n : Nat) (h5 : cs.drop n ≠ []) :
  R E w (.elem (cs.drop n)) (.pointer (some ⟨b, off + n, none⟩)) := by
 have hn : n < cs.length := by
  rcases Nat.lt_or_ge n cs.length with h | h
  ·exact h
  ·exact (h5 (List.drop_eq_nil_of_le h)).elim
 refine .elem (us := fun j => us (n + j)) h5 (fun c hc => h4 c (List.mem_of_mem_drop hc)) (.inr ⟨b, off + n, rfl, by simp; omega, fun j hj => ?_⟩) fun j c hc => ?_
 ·simp only [List.length_drop] at hj
  have := h2 (n + j) (by omega)
  rwa [← Nat.add_assoc] at this
 ·rw [List.getElem?_drop] at hc; exact h3 _ c hc
theorem lz (b o j : Nat) : (⟨b, o, none⟩ : Addr).add j = ⟨b, o + j, none⟩ := by unfold Addr.add; split <;> simp_all
end

section
variable {P : Program} {o : Oper} {st : St} {D : Nat → Prop}

theorem v6 {x : Operand} (ho : o.op = .move x ∨ o.op = .assign x) : NStep P o st (evC st x) := fun E w a hs =>
 ⟨_, hs.ev x, fun w' => by rcases ho with ho | ho <;> simp [execOp, ho]⟩
theorem pr {c a b : Operand} {k : Bool} (ho : o.op = .pick c a b) (hc : evC st c = .v (.bool k)) : NStep P o st (bif k then evC st a else evC st b) := fun E w ac hs => by
 have hr := hs.ev c
 rw [hc] at hr
 have e := hr.v_inv
 refine ⟨if k = true then ac.eval a else ac.eval b, ?_, fun w' => ?_⟩
 ·cases k
  ·exact hs.ev b
  ·exact hs.ev a
 ·cases k <;> simp [execOp, ho, e, asBool]
theorem b7 {c a b : Operand} {k j : Bool} (ho : o.op = .pick c a b) (hc : evC st c = .v (.bool k)) (ha : evC st a = .v (.bool j)) (hb : evC st b = .v (.bool false)) : NStep P o st (.v (.bool (k && j))) := fun E w ac hs => by
 obtain ⟨v, h1, h2⟩ := pr (P := P) ho hc E w ac hs
 refine ⟨v, ?_, h2⟩
 cases k
 ·simpa [hb] using h1
 ·simpa [ha] using h1
theorem bz {c a b : Operand} {k j : Bool} (ho : o.op = .pick c a b) (hc : evC st c = .v (.bool k)) (ha : evC st a = .v (.bool true)) (hb : evC st b = .v (.bool j)) : NStep P o st (.v (.bool (k || j))) := fun E w ac hs => by
 obtain ⟨v, h1, h2⟩ := pr (P := P) ho hc E w ac hs
 refine ⟨v, ?_, h2⟩
 cases k
 ·simpa [hb] using h1
 ·simpa [ha] using h1

/-- Two integers. -/
theorem ka {op : BinOp} {xt yt : TypeId} {x y : Operand} {k : IntKind} {m n : Int} {r : Value} (ho : o.op = .binOp op xt x y yt) (hx : evC st x = .v (.int k m)) (hy : evC st y = .v (.int k n))
  (h1 : okV r = true) (h : ∀ w, (do eqGuard op xt x y (.int k m) (.int k n); binOp op xt (.int k m) (.int k n)).run P w = .ok r w) : NStep P o st (.v r) := fun E w a hs => by
 have e1 := (hx ▸ hs.ev x).v_inv
 have e2 := (hy ▸ hs.ev y).v_inv
 refine ⟨r, .v h1, fun w' => ?_⟩
 have := h w'
 simp only [execOp, ho, e1, e2, Sem.run_bind] at this ⊢
 rw [this]
 rfl
theorem cj {xt yt : TypeId} {x y : Operand} {k : IntKind} {m n : Int} (ho : o.op = .binOp .lss xt x y yt) (hx : evC st x = .v (.int k m)) (hy : evC st y = .v (.int k n)) : NStep P o st (.v (.bool (decide (m < n)))) :=
 ka ho hx hy rfl fun w => by cases k <;> simp [eqGuard, binOp, Op.intCmp]
theorem v7 {xt yt : TypeId} {x y : Operand} {k : IntKind} {m n : Int} (ho : o.op = .binOp .leq xt x y yt) (hx : evC st x = .v (.int k m)) (hy : evC st y = .v (.int k n)) : NStep P o st (.v (.bool (decide (m ≤ n)))) :=
 ka ho hx hy rfl fun w => by cases k <;> simp [eqGuard, binOp, Op.intCmp]
theorem g7 {xt yt : TypeId} {x y : Operand} {k : IntKind} {m n : Int} (ho : o.op = .binOp .gtr xt x y yt) (hx : evC st x = .v (.int k m)) (hy : evC st y = .v (.int k n)) : NStep P o st (.v (.bool (decide (n < m)))) :=
 ka ho hx hy rfl fun w => by cases k <;> simp [eqGuard, binOp, Op.intCmp]
theorem mf {xt yt : TypeId} {x y : Operand} {k : IntKind} {m n : Int} (ho : o.op = .binOp .geq xt x y yt) (hx : evC st x = .v (.int k m)) (hy : evC st y = .v (.int k n)) : NStep P o st (.v (.bool (decide (n ≤ m)))) :=
 ka ho hx hy rfl fun w => by cases k <;> simp [eqGuard, binOp, Op.intCmp]
theorem dy {xt yt : TypeId} {x y : Operand} {k : IntKind} {m n : Int} (ho : o.op = .binOp .eql xt x y yt) (hx : evC st x = .v (.int k m)) (hy : evC st y = .v (.int k n)) : NStep P o st (.v (.bool (decide (m = n)))) :=
 ka ho hx hy rfl fun w => by cases k <;> simp [eqGuard, binOp, Op.intCmp] <;> rfl
theorem em {xt yt : TypeId} {x y : Operand} {k : IntKind} {m n : Int} (ho : o.op = .binOp .neq xt x y yt) (hx : evC st x = .v (.int k m)) (hy : evC st y = .v (.int k n)) : NStep P o st (.v (.bool (!decide (m = n)))) :=
 ka ho hx hy rfl fun w => by cases k <;> simp [eqGuard, binOp, Op.intCmp] <;> rfl
/-- .. whose outcome is known -/
theorem du {b c : Bool} (h : NStep P o st (.v (.bool b))) (e : b = c) : NStep P o st (.v (.bool c)) := e ▸ h
theorem bx {xt yt : TypeId} {x y : Operand} {m n : Int} (ho : o.op = .binOp .add xt x y yt) (hx : evC st x = .v (.int .i64 m)) (hy : evC st y = .v (.int .i64 n)) (hb : -9223372036854775808 ≤ m + n ∧ m + n ≤ 9223372036854775807) : NStep P o st (.v (.int .i64 (m + n))) :=
 ka ho hx hy (jf hb) fun w => by
  have : IntKind.i64.wrap (m + n) = m + n := by rw [IntKind.wrap_i64]; omega
  simp [eqGuard, binOp, Op.intArith, this]
theorem ip {xt yt : TypeId} {x y : Operand} {m n : Int} (ho : o.op = .binOp .sub xt x y yt) (hx : evC st x = .v (.int .i64 m)) (hy : evC st y = .v (.int .i64 n)) (hb : -9223372036854775808 ≤ m - n ∧ m - n ≤ 9223372036854775807) : NStep P o st (.v (.int .i64 (m - n))) :=
 ka ho hx hy (jf hb) fun w => by
  have : IntKind.i64.wrap (m - n) = m - n := by rw [IntKind.wrap_i64]; omega
  simp [eqGuard, binOp, Op.intArith, this]
theorem cp {xt yt : TypeId} {x y : Operand} {k : IntKind} {m n : Int} (ho : o.op = .binOp .add xt x y yt) (hx : evC st x = .v (.int k m)) (hy : evC st y = .v (.int k n)) : NStep P o st (.v (.int k (k.wrap (m + n)))) :=
 ka ho hx hy (vw _ _) fun w => by simp [eqGuard, binOp, Op.intArith]
theorem jh {xt yt : TypeId} {x y : Operand} {k : IntKind} {m n : Int} (ho : o.op = .binOp .sub xt x y yt) (hx : evC st x = .v (.int k m)) (hy : evC st y = .v (.int k n)) : NStep P o st (.v (.int k (k.wrap (m - n)))) :=
 ka ho hx hy (vw _ _) fun w => by simp [eqGuard, binOp, Op.intArith]
/-- Two strings. -/
theorem v5 {op : BinOp} {xt yt : TypeId} {x y : Operand} {m n : ByteArray} {r : Value} (ho : o.op = .binOp op xt x y yt) (hx : evC st x = .v (.string m)) (hy : evC st y = .v (.string n))
  (h1 : okV r = true) (h : ∀ w, (Op.stringOp op m n).run P w = .ok r w) : NStep P o st (.v r) := fun E w a hs => by
 have e1 := (hx ▸ hs.ev x).v_inv
 have e2 := (hy ▸ hs.ev y).v_inv
 refine ⟨r, .v h1, fun w' => ?_⟩
 have h2 : (eqGuard op xt x y (.string m) (.string n)).run P w' = .ok () w' := by cases op <;> rfl
 have h3 : binOp op xt (.string m) (.string n) = Op.stringOp op m n := by cases op <;> rfl
 simp only [execOp, ho, e1, e2, Sem.run_bind, h2, h3, h w', Result.andThen_ok]
 rfl
theorem toList_inj {x y : ByteArray} (h : x.toList = y.toList) : x = y := by
 rw [ByteArray.toList_eq, ByteArray.toList_eq] at h
 exact _root_.ByteArray.ext (Array.toList_inj.1 h)
theorem rg (x y : ByteArray) : (x.toList == y.toList) = decide (x = y) := by
 by_cases h : x = y
 ·subst h; simp
 ·have : ¬ x.toList = y.toList := fun e => h (toList_inj e)
  simp [h, this]
theorem lg {xt yt : TypeId} {x y : Operand} {m n : ByteArray} (ho : o.op = .binOp .eql xt x y yt) (hx : evC st x = .v (.string m)) (hy : evC st y = .v (.string n)) : NStep P o st (.v (.bool (decide (m = n)))) :=
 v5 ho hx hy rfl fun w => by simp only [Op.stringOp, rg]; rfl
theorem me {xt yt : TypeId} {x y : Operand} {m n : ByteArray} (ho : o.op = .binOp .neq xt x y yt) (hx : evC st x = .v (.string m)) (hy : evC st y = .v (.string n)) : NStep P o st (.v (.bool (!decide (m = n)))) :=
 v5 ho hx hy rfl fun w => by simp only [Op.stringOp, rg]; rfl
theorem dt {xt : TypeId} {x : Operand} {b : Bool} (ho : o.op = .unOp .not xt x) (hx : evC st x = .v (.bool b)) : NStep P o st (.v (.bool (!b))) := fun E w a hs => by
 have e1 := (hx ▸ hs.ev x).v_inv
 exact ⟨_, .v rfl, fun w' => by simp [execOp, ho, e1, Op.unary]⟩
theorem da {x : Operand} {i : Nat} {cs : List C} {c : C} (ho : o.op = .extract x i) (hx : evC st x = .tup cs) (hc : cs[i]? = some c) : NStep P o st c := fun E w a hs => by
 obtain ⟨vs, e, hr⟩ := (hx ▸ hs.ev x).tup_inv
 have hlt : i < vs.length := by rw [hr.1]; exact (List.getElem?_eq_some_iff.1 hc).1
 refine ⟨vs[i], hr.2 i c _ hc (List.getElem?_eq_getElem hlt), fun w' => by simp [execOp, ho, e, Instr.extract, hlt]⟩
theorem m1 {x : Operand} {cs : List C} (ho : o.op = .nilCheck x) (hx : evC st x = .elem cs) : NStep P o st (.elem cs) := fun E w a hs => by
 have hr := hx ▸ hs.ev x
 obtain ⟨b, off, us, e, _⟩ := hr.elem_inv
 exact ⟨_, hr, fun w' => by simp [execOp, ho, e]⟩
theorem m0 {x : Operand} {n ver off : Nat} (ho : o.op = .nilCheck x) (hx : evC st x = .box n ver off) : NStep P o st (.box n ver off) := fun E w a hs => by
 have hr := hx ▸ hs.ev x
 refine ⟨_, hr, fun w' => ?_⟩
 generalize hv : a.eval x = v at hr
 cases hr
 simp [execOp, ho, hv]
theorem mz {x : Operand} {f : FuncId} {cs : List C} (ho : o.op = .nilCheck x) (hx : evC st x = .fn (.func f) cs) : NStep P o st (.fn (.func f) cs) := fun E w a hs => by
 have hr := hx ▸ hs.ev x
 obtain ⟨vs, e, _⟩ := hr.fn_inv
 exact ⟨_, hr, fun w' => by simp [execOp, ho, e]⟩
theorem pt {f : Fn} {caps : List Operand} {cs : List C} (ho : o.op = .makeFunc f #[] caps.toArray) (hc : caps.map (evC st) = cs) : NStep P o st (.fn f cs) := fun E w a hs => by
 subst hc
 refine ⟨.func f #[] (caps.map a.eval).toArray, Rs.fn ⟨by simp, fun j c v h1 h2 => ?_⟩, fun w' => by simp [execOp, ho, Instr.makeFunc]⟩
 rw [List.getElem?_map] at h1 h2
 cases hx : caps[j]? with
 | none => rw [hx] at h1; cases h1
 | some x =>
  rw [hx] at h1 h2
  simp only [Option.map_some, Option.some.injEq] at h1 h2
  subst h1; subst h2
  exact hs.ev x

/-- A field's address. -/
theorem uh {t : TypeId} {f off : Nat} {ft : TypeId} [Fld P t f off ft] (b o' : Nat) (w : World) : (Instr.fieldAt t (.pointer (some ⟨b, o', none⟩)) f).run P w = .ok (.pointer (some ⟨b, o' + off, none⟩)) w := by
 obtain ⟨fs, fd, h1, h2, h3, h4, h5⟩ := Fld.spec (P := P) (t := t) (f := f) (off := off) (ft := ft)
 obtain ⟨k, hk⟩ := h5 w
 subst h3; subst h4
 simp [Instr.fieldAt, run_underlying h1, h2, Instr.sureAddr, fieldPlace, hk, lz]
theorem ub0 {t : TypeId} {x : Operand} {f off : Nat} {ft : TypeId} [Fld P t f off ft] {cs : List C} (ho : o.op = .fieldAddr t x f) (hx : evC st x = .elem cs) (hne : cs.drop off ≠ []) : NStep P o st (.elem (cs.drop off)) := fun E w a hs => by
 obtain ⟨b, o', us, e, h1, h2, h3, h4, _⟩ := (hx ▸ hs.ev x).elem_inv
 exact ⟨_, R.elem_drop h1 h2 h3 h4 off hne, fun w' => by simp [execOp, ho, e, uh (P := P) (t := t) (f := f) (off := off) (ft := ft)]⟩
theorem bi {t : TypeId} {x : Operand} {f off : Nat} {ft : TypeId} [Fld P t f off ft] {n ver p : Nat} (ho : o.op = .fieldAddr t x f) (hx : evC st x = .box n ver p) : NStep P o st (.box n ver (p + off)) := fun E w a hs => by
 have hr := hx ▸ hs.ev x
 generalize hv : a.eval x = v at hr
 cases hr with
 | box h1 h2 => exact ⟨_, .box h1 h2, fun w' => by simp [execOp, ho, hv, uh (P := P) (t := t) (f := f) (off := off) (ft := ft)]⟩

theorem n_len {t ty : TypeId} {x : Operand} {rows : List (List C)} {tok : Tok} {e : TypeId} [Elt P t e] (ho : o.op = .call { callee := .builtin .len, args := #[x], argTypes := #[t] }) (_ht : ty = ty) (hx : evC st x = .list rows tok) : NStep P o st (.v (.int .i64 rows.length)) := fun E w a hs => by
 have hr := hx ▸ hs.ev x
 generalize hv : a.eval x = v at hr
 have hlen : rows.length ≤ 9223372036854775807 := by
  cases hr with
  | list h1 h2 => unfold maxLen at h2; omega
 cases hr
 refine ⟨_, .v (jf (by omega)), fun w' => ?_⟩
 have := Elt.spec (P := P) (t := t) (e := e)
 simp [execOp, ho, resolve, invoke, builtin, Builtin.len_, run_underlying this, hv, goInt]
theorem ubx {t : TypeId} {x : Operand} {s : ByteArray} (ho : o.op = .call { callee := .builtin .len, args := #[x], argTypes := #[t] }) (ht : P.underlying t = some .string) (hx : evC st x = .v (.string s)) : NStep P o st (.v (.int .i64 s.size)) := fun E w a hs => by
 have e1 := (hx ▸ hs.ev x).v_inv
 have hr := hx ▸ hs.ev x
 have hsz : s.size ≤ 9223372036854775807 := by
  generalize a.eval x = v at hr
  cases hr with
  | v h => exact okV_str.1 h
 exact ⟨_, .v (jf (by omega)), fun w' => by simp [execOp, ho, resolve, invoke, builtin, Builtin.len_, run_underlying ht, e1, goInt]⟩

/-- What is laid reads so. -/
theorem nv {t : TypeId} {n : Nat} {b off : Nat} {us : List Value} {w' : World} [Ty P t true n] (hn : us.length = n) (hc : ∀ j v, us[j]? = some v → w'.cell? ⟨b, off + j, none⟩ = some v) :
  (Instr.loadAt t (.pointer (some ⟨b, off, none⟩))).run P w' = .ok (.agg us.toArray) w' := by
 have h1 := Ty.row (P := P) (w := w') (t := t) (ag := true) (n := n)
 have h2 := Ty.size (P := P) (w := w') (t := t) (ag := true) (n := n)
 have hl : (loadCells ⟨b, off, none⟩ us.length).run P w' = .ok us.toArray w' :=
  run_loadCells_list (P := P) w' ⟨b, off, none⟩ us (fun j v hv => by rw [Addr.add_mid]; exact hc j v hv)
 subst hn
 simp [Instr.loadAt, Instr.sureAddr, loadVar, h1, h2, hl]
theorem rn {t : TypeId} {b off : Nat} {u : Value} {w' : World} [Ty P t false 1] (hc : w'.cell? ⟨b, off, none⟩ = some u) :
  (Instr.loadAt t (.pointer (some ⟨b, off, none⟩))).run P w' = .ok u w' := by
 have h1 := Ty.row (P := P) (w := w') (t := t) (ag := false) (n := 1)
 simp [Instr.loadAt, Instr.sureAddr, loadVar, h1, load, Sem.run, hc]

theorem aw {t : TypeId} {x : Operand} {c : C} {cs : List C} [Ty P t false 1] (ho : o.op = .load t x) (hx : evC st x = .elem (c :: cs)) : SStep P D o st c := fun E w a hs => by
 obtain ⟨b, off, us, e, h1, h2, h3, _⟩ := (hx ▸ hs.ev x).elem_inv
 refine ⟨us 0, h3 0 c rfl, fun w' hk => ?_⟩
 have h4 := h2 0 (by simp)
 have h5 := hk.1 b off (by simp at h1; omega)
 simp [execOp, ho, e, rn (P := P) (t := t) (h5.trans h4)]
theorem io {t : TypeId} {x : Operand} {n : Nat} {cs : List C} [Ty P t true n] (ho : o.op = .load t x) (hx : evC st x = .elem cs) (hn : n ≤ cs.length) : SStep P D o st (.agg (cs.take n)) := fun E w a hs => by
 obtain ⟨b, off, us, e, h1, h2, h3, h4, _⟩ := (hx ▸ hs.ev x).elem_inv
 have hlen : ((List.range n).map us).length = n := by simp
 refine ⟨.agg ((List.range n).map us).toArray, Rs.agg ⟨by simp; omega, fun j c v hc hv => ?_⟩ (fun c hc => h4 c (List.mem_of_mem_take hc)), fun w' hk => ?_⟩
 ·rw [List.getElem?_take] at hc
  split at hc
  ·rename_i hj
   rw [List.getElem?_map, List.getElem?_range hj] at hv
   simp only [Option.map_some, Option.some.injEq] at hv
   exact hv ▸ h3 j c hc
  ·cases hc
 ·have hrun := nv (P := P) (t := t) (n := n) (b := b) (off := off) (us := (List.range n).map us) (w' := w') hlen fun j v hv => by
   have hj : j < n := by have := (List.getElem?_eq_some_iff.1 hv).1; simpa using this
   rw [List.getElem?_map, List.getElem?_range hj] at hv
   simp only [Option.map_some, Option.some.injEq] at hv
   subst hv
   exact (hk.1 b (off + j) (by omega)).trans (h2 j (by omega))
  simp only [execOp, ho, e, Sem.run_bind, hrun, Result.andThen_ok]
  rfl

theorem i0 {α : Type} {rows : List (List α)} {s : Nat} (h : ∀ r ∈ rows, r.length = s) : rows.flatten.length = rows.length * s := by
 induction rows with
 | nil => simp
 | cons r rs ih =>
  rw [List.flatten_cons, List.length_append, h r (by simp), ih (fun r hr => h r (by simp [hr])), List.length_cons, Nat.add_mul]
  omega
theorem oq {α : Type} {rows : List (List α)} {s k j : Nat} {row : List α} {c : α} (h : ∀ r ∈ rows, r.length = s) (hrow : rows[k]? = some row) (hj : row[j]? = some c) : rows.flatten[k * s + j]? = some c := by
 induction rows generalizing k with
 | nil => simp at hrow
 | cons r rs ih =>
  cases k with
  | zero =>
   simp at hrow
   subst hrow
   rw [List.flatten_cons, Nat.zero_mul, Nat.zero_add, List.getElem?_append_left (List.getElem?_eq_some_iff.1 hj).1]
   exact hj
  | succ k =>
   simp at hrow
   rw [List.flatten_cons]
   have hl := h r (by simp)
   rw [List.getElem?_append_right (by rw [hl, Nat.add_mul]; omega)]
   rw [show (k + 1) * s + j - r.length = k * s + j by rw [hl, Nat.add_mul]; omega]
   exact ih (fun r hr => h r (by simp [hr])) hrow

/-- An element's address. -/
theorem bf {t : TypeId} {x i : Operand} {rows : List (List C)} {tok : Tok} {row : List C} {e : TypeId} {ik : IntKind} {n : Int} {k sz : Nat} {ag : Bool} [Elt P t e] [Ty P e ag sz] (ho : o.op = .indexAddr t x i) (hx : evC st x = .list rows tok) (hi : evC st i = .v (.int ik n)) (hn : n = (k : Int)) (hrow : rows[k]? = some row) (hsz : row.length = sz) : NStep P o st (.elem row) := fun E w a hs => by
 subst hn
 have hr := hx ▸ hs.ev x
 have e1 := (hi ▸ hs.ev i).v_inv
 generalize hv : a.eval x = v at hr
 cases hr with
 | @list _ _ ad cap s us h1 h2 h3 h4 h5 h6 h7 _ _ h8 =>
  have hk : k < rows.length := (List.getElem?_eq_some_iff.1 hrow).1
  have hs' : s = sz := by rw [← hsz]; exact (h4 row (List.mem_of_getElem? hrow)).symm
  subst hs'
  have hflat := i0 h4
  have hcell : ∀ j c, row[j]? = some c → rows.flatten[k * s + j]? = some c := fun j c hj => oq h4 hrow hj
  rcases h6 with h6 | ⟨b, off, rfl, h6, h9⟩
  ·rw [hflat] at h6
   have := Nat.mul_pos (show 0 < rows.length by omega) (show 0 < s by omega)
   omega
  ·have hle : k * s + s ≤ rows.length * s := by rw [← Nat.succ_mul]; exact Nat.mul_le_mul_right _ hk
   refine ⟨.pointer (some ⟨b, off + k * s, none⟩), .elem (us := fun j => us (k * s + j)) (by intro h0; rw [h0] at hsz; simp at hsz; omega) (fun c hc => h5 row (List.mem_of_getElem? hrow) c hc) (.inr ⟨b, off + k * s, rfl, by omega, fun j hj => ?_⟩) (fun j c hj => h7 _ c (hcell j c hj)), fun w' => ?_⟩
   ·rw [Nat.add_assoc]; exact h9 _ (by omega)
   ·have q1 := Elt.spec (P := P) (t := t) (e := e)
    have q2 := Ty.size (P := P) (w := w') (t := e) (ag := ag) (n := s)
    have q3 : (k : Int) < (rows.length : Int) := by omega
    simp [execOp, ho, Instr.indexAt, hv, e1, asIntOf, run_underlying q1, q2, q3, lz]
    intro h; omega

/-- A byte of a text. -/
theorem uby {t : TypeId} {x i : Operand} {s : ByteArray} {ik : IntKind} {n : Int} {k : Nat} (ho : o.op = .index t x i) (ht : P.underlying t = some .string) (hx : evC st x = .v (.string s)) (hi : evC st i = .v (.int ik n)) (hn : n = (k : Int)) (hk : k < s.size) : NStep P o st (.v (.int .u8 (s[k].toNat : Int))) := fun E w a hs => by
 subst hn
 have e1 := (hx ▸ hs.ev x).v_inv
 have e2 := (hi ▸ hs.ev i).v_inv
 have hb : s[k].toNat < 256 := s[k].toNat_lt
 refine ⟨_, .v (sa (by omega)), fun w' => ?_⟩
 simp [execOp, ho, Instr.index, e1, e2, asIntOf, run_underlying ht, hk]
end
end Go.AB
namespace Go.AB
open Go Go.RowKit

section
variable {P : Program} {ops : Array Oper} {Q : Exit → Act → World → Prop} {md : Region.Mode} {S : World → Prop} {late : Nat → Bool}

/-- Whatever order is picked from here on; behind each operation that is carried out S holds, but behind the late ones. -/
def ig (P : Program) (md : Region.Mode) (ops : Array Oper) (Q : Exit → Act → World → Prop) (S : World → Prop) (late : Nat → Bool) : Nat → Array Bool → Act → World → Prop
 | 0, listed, a, w => Region.ready md ops listed = [] ∧ Q .normal a w
 | fuel + 1, listed, a, w =>
  (Region.ready md ops listed = [] → Q .normal a w) ∧
  ∀ i ∈ Region.ready md ops listed, wpOp P ops Q i (fun a' w' => (late i = true ∨ (S w → S w')) ∧ ig P md ops Q S late fuel (listed.setIfInBounds i true) a' w') a w

theorem ra : ∀ (fuel : Nat) (listed : Array Bool) (a : Act) (w : World), ig P md ops Q S late fuel listed a w → wpAny P md ops Q fuel listed a w
 | 0, _, _, _, h => h
 | fuel + 1, _, _, _, h => ⟨h.1, fun i hi => wpOp_mono (fun a' w' h' => ra fuel _ a' w' h'.2) (h.2 i hi)⟩

/-- j waits for i, at once or by others. -/
def la (md : Region.Mode) (ops : Array Oper) : Nat → Nat → Nat → Bool
 | 0, _, _ => false
 | n + 1, j, i => match ops[j]? with
  | none => false
  | some o => o.after.any fun e => Region.binds md e && (e.on == i || la md ops n e.on i)

/-- What is listed has all listed that it waits for. -/
def Closed (md : Region.Mode) (ops : Array Oper) (listed : Array Bool) : Prop :=
 ∀ j o, ops[j]? = some o → listed.getD j false = true → ∀ e ∈ o.after, Region.binds md e = true → listed.getD e.on false = true

theorem ua0 {listed : Array Bool} (hc : Closed md ops listed) : ∀ (n j i : Nat) (o : Oper), ops[j]? = some o →
  (∀ e ∈ o.after, Region.binds md e = true → listed.getD e.on false = true) → la md ops n j i = true → listed.getD i false = true := by
 intro n
 induction n with
 | zero => intro j i o _ _ h; simp [la] at h
 | succ n ih =>
  intro j i o ho hall h
  simp only [la, ho] at h
  obtain ⟨e, he, h2⟩ := Array.any_eq_true'.1 h
  simp only [Bool.and_eq_true, Bool.or_eq_true, beq_iff_eq] at h2
  obtain ⟨hb, h3⟩ := h2
  have hl := hall e he hb
  rcases h3 with rfl | h3
  ·exact hl
  ·cases ho' : ops[e.on]? with
   | none => cases n <;> simp [la, ho'] at h3
   | some o' => exact ih e.on i o' ho' (hc e.on o' ho' hl) h3

theorem Closed.set {listed : Array Bool} (hc : Closed md ops listed) {i : Nat} (hi : i ∈ Region.ready md ops listed) : Closed md ops (listed.setIfInBounds i true) := by
 intro j o ho hj e he hb
 by_cases hij : i = j
 ·subst hij
  obtain ⟨_, o', ho', hall⟩ := mem_ready.1 hi
  rw [ho] at ho'
  cases ho'
  exact getD_set_true (hall e he hb)
 ·rw [getD_set_ne false hij] at hj
  exact getD_set_true (hc j o ho hj e he hb)

/-- An operation that may come up now may be taken first, if it yields its value in every world that meets T; T is S, S holds and every late operation waits for it; or T is nothing. -/
theorem o7 {i : Nat} {oi : Oper} {v : Value} {depth : Nat} (T : World → Prop) (hi : ops[i]? = some oi) (hsel : ∀ (j : Nat) (o : Oper) cs b, ops[j]? = some o → o.op ≠ .select cs b)
  (hQ : ∀ c a w, Q (.panic c) (a.put oi.dst v) w → Q (.panic c) a w)
  (hT : (∀ w, T w) ∨ (T = S ∧ ∀ j oj, ops[j]? = some oj → late j = true → j ≠ i → la md ops depth j i = true)) :
  ∀ (fuel : Nat) (listed : Array Bool) (a : Act) (w : World), Closed md ops listed →
   (∀ j oj, ops[j]? = some oj → j ≠ i → listed.getD j true = false → (∀ e ∈ oj.after, Region.binds md e = true → e.on ≠ i) → oi.apart ops oj = true) →
   i ∈ Region.ready md ops listed → YieldsIf P ops T oi v a → T w →
   ig P md ops Q S late fuel (listed.setIfInBounds i true) (a.put oi.dst v) w → ig P md ops Q S late (fuel + 1) listed a w := by
 intro fuel
 induction fuel with
 | zero =>
  intro listed a w _ _ hr hy hS H
  refine ⟨fun h => (by rw [h] at hr; cases hr), fun j hj => ?_⟩
  by_cases hji : j = i
  ·subst hji; exact hy.wpOp hi hS ⟨.inr id, H⟩
  ·have := ready_mono hj hji
   rw [H.1] at this
   cases this
 | succ fuel ih =>
  intro listed a w hc hfree hr hy hS H
  refine ⟨fun h => (by rw [h] at hr; cases hr), fun j hj => ?_⟩
  by_cases hji : j = i
  ·subst hji; exact hy.wpOp hi hS ⟨.inr id, H⟩
  ·have h1 := H.2 j (ready_mono hj hji)
   obtain ⟨hjun, oj, hoj, hall⟩ := mem_ready.1 hj
   have hiun : listed.getD i false = false := by
    have h0 := (mem_ready.1 hr).1
    rcases Nat.lt_or_ge i listed.size with h' | h'
    ·simp [h'] at h0 ⊢; exact h0
    ·simp [Array.getElem?_eq_none h']
   have hnot : ∀ e ∈ oj.after, Region.binds md e = true → e.on ≠ i := fun e he hb heq => by
    have h1 := hall e he hb
    rw [heq, hiun] at h1
    cases h1
   have h2 := wpOp_putIf hoj (hfree j oj hoj hji hjun hnot) (fun cs b => hsel i oi cs b hi) (fun cs b => hsel j oj cs b hoj) hQ hy h1
   have hfree' : ∀ k ok, ops[k]? = some ok → k ≠ i → (listed.setIfInBounds j true).getD k true = false →
     (∀ e ∈ ok.after, Region.binds md e = true → e.on ≠ i) → oi.apart ops ok = true := fun k ok hk hki hun hno => by
    refine hfree k ok hk hki ?_ hno
    by_cases hjk : j = k
    ·subst hjk; exact hjun
    ·rw [getD_set_ne true hjk] at hun; exact hun
   refine wpOp_mono (fun a' w' h3 => ?_) h2
   obtain ⟨hy', hS', H'⟩ := h3
   have hT' : T w' := by
    rcases hT with hT | ⟨rfl, hlate⟩
    ·exact hT w'
    ·refine (hS'.resolve_left ?_) hS
     intro hl
     have := ua0 hc depth j i oj hoj hall (hlate j oj hoj hl hji)
     rw [hiun] at this
     cases this
   refine ⟨hS', ih (listed.setIfInBounds j true) a' w' (hc.set hj) hfree' (ready_mono hr (Ne.symm hji)) hy' hT' ?_⟩
   rw [Array.setIfInBounds_comm _ _ hji]
   exact H'

/-- The walk in the order of a list: E are those that are carried out, N those that need no world; two that act may come up together. -/
def eu (P : Program) (ops : Array Oper) (Q : Exit → Act → World → Prop) (S : World → Prop) (late E N : Nat → Bool) : List (Nat × Option Nat) → Act → World → Prop
 | [], a, w => Q .normal a w
 | (i, some j) :: rest, a, w =>
  wpOp P ops Q i (fun a' w' => (S w → S w') ∧ wpOp P ops Q j (fun a2 w2 => (S w' → S w2) ∧ eu P ops Q S late E N rest a2 w2) a' w') a w ∧
  wpOp P ops Q j (fun a' w' => (S w → S w') ∧ wpOp P ops Q i (fun a2 w2 => (S w' → S w2) ∧ eu P ops Q S late E N rest a2 w2) a' w') a w
 | (i, none) :: rest, a, w =>
  if E i = true then wpOp P ops Q i (fun a' w' => (late i = true ∨ (S w → S w')) ∧ eu P ops Q S late E N rest a' w') a w
  else match ops[i]? with
   | none => False
   | some o => ∃ v, YieldsIf P ops (if N i = true then fun _ => True else S) o v a ∧ eu P ops Q S late E N rest (a.put o.dst v) w

/-- The order fits the region. -/
def lu (ops : Array Oper) (late E N : Nat → Bool) : List (Nat × Option Nat) → Array Bool → Bool
 | [], listed => Region.ready .any ops listed == []
 | (i, some j) :: rest, listed =>
  E i && E j && i != j && Region.ready .any ops listed == [i, j] && Region.ready .any ops (listed.setIfInBounds i true) == [j] && Region.ready .any ops (listed.setIfInBounds j true) == [i] &&
  lu ops late E N rest ((listed.setIfInBounds i true).setIfInBounds j true)
 | (i, none) :: rest, listed =>
  (if E i = true then Region.ready .any ops listed == [i]
   else (Region.ready .any ops listed).contains i && Region.free .any ops listed i && (ops[i]?).isSome &&
    (N i || ((List.range ops.size).all fun j => !late j || j == i || la .any ops ops.size j i))) &&
  lu ops late E N rest (listed.setIfInBounds i true)

/-- How many operations. -/
def f7 : List (Nat × Option Nat) → Nat
 | [] => 0
 | (_, some _) :: r => f7 r + 2
 | (_, none) :: r => f7 r + 1

/-- Behind a late operation nothing is taken for its reading. -/
def n9 (late E N : Nat → Bool) : List (Nat × Option Nat) → Bool
 | [] => true
 | (i, m) :: rest => (!late i || rest.all fun j => E j.1 || N j.1) && n9 late E N rest

theorem zm {E N : Nat → Bool} (hs : Region.noSelect ops = true) (hQ : ∀ (o : Option Tmp) (v : Value) c a w, Q (.panic c) (a.put o v) w → Q (.panic c) a w) :
  ∀ (π : List (Nat × Option Nat)) (listed : Array Bool) (a : Act) (w : World), Closed .any ops listed → lu ops late E N π listed = true → n9 late E N π = true →
   ((π.all fun j => E j.1 || N j.1) = true ∨ S w) → eu P ops Q S late E N π a w → ig P .any ops Q S late (f7 π) listed a w := by
 intro π
 induction π with
 | nil =>
  intro listed a w _ hc _ _ h
  exact ⟨by simpa [lu] using hc, h⟩
 | cons p rest ih =>
  obtain ⟨i, m⟩ := p
  intro listed a w hcl hc hl hSw h
  simp only [n9, Bool.and_eq_true, Bool.or_eq_true, Bool.not_eq_true'] at hl
  obtain ⟨hl1, hl2⟩ := hl
  cases m with
  | some j =>
   simp only [lu, Bool.and_eq_true, beq_iff_eq, bne_iff_ne, ne_eq] at hc
   obtain ⟨⟨⟨⟨⟨⟨hEi, hEj⟩, hij⟩, hr⟩, hri⟩, hrj⟩, hc2⟩ := hc
   simp only [eu] at h
   obtain ⟨h1, h2⟩ := h
   have hclij := (hcl.set (i := i) (by rw [hr]; simp)).set (i := j) (by rw [hri]; simp)
   have hcomm : (listed.setIfInBounds j true).setIfInBounds i true = (listed.setIfInBounds i true).setIfInBounds j true := Array.setIfInBounds_comm _ _ (fun e => hij e.symm)
   have fin : ∀ a2 w1 w2, (S w → S w1) → (S w1 → S w2) → eu P ops Q S late E N rest a2 w2 → ig P .any ops Q S late (f7 rest) ((listed.setIfInBounds i true).setIfInBounds j true) a2 w2 := fun a2 w1 w2 q1 q2 q3 => by
    refine ih _ a2 w2 hclij hc2 hl2 ?_ q3
    rcases hSw with hSw | hSw
    ·exact .inl (by simp only [List.all_cons, Bool.and_eq_true] at hSw; exact hSw.2)
    ·exact .inr (q2 (q1 hSw))
   show ig P .any ops Q S late (f7 rest + 1 + 1) listed a w
   refine ⟨fun h0 => (by rw [hr] at h0; cases h0), fun k hk => ?_⟩
   rw [hr] at hk
   simp only [List.mem_cons, List.not_mem_nil, or_false] at hk
   rcases hk with rfl | rfl
   ·refine wpOp_mono (fun a' w' h' => ⟨.inr h'.1, ?_⟩) h1
    refine ⟨fun h0 => (by rw [hri] at h0; cases h0), fun k2 hk2 => ?_⟩
    rw [hri] at hk2
    obtain rfl : k2 = j := by simpa using hk2
    exact wpOp_mono (fun a2 w2 h2 => ⟨.inr h2.1, fin a2 w' w2 h'.1 h2.1 h2.2⟩) h'.2
   ·refine wpOp_mono (fun a' w' h' => ⟨.inr h'.1, ?_⟩) h2
    refine ⟨fun h0 => (by rw [hrj] at h0; cases h0), fun k2 hk2 => ?_⟩
    rw [hrj] at hk2
    obtain rfl : k2 = i := by simpa using hk2
    refine wpOp_mono (fun a2 w2 h2 => ⟨.inr h2.1, ?_⟩) h'.2
    rw [hcomm]
    exact fin a2 w' w2 h'.1 h2.1 h2.2
  | none =>
  simp only [lu, Bool.and_eq_true] at hc
  obtain ⟨hc1, hc2⟩ := hc
  simp only [eu] at h
  show ig P .any ops Q S late (f7 rest + 1) listed a w
  split at hc1
  ·rename_i hE
   rw [if_pos hE] at h
   have hr : Region.ready .any ops listed = [i] := by simpa using hc1
   refine ⟨fun h0 => (by rw [hr] at h0; cases h0), fun j hj => ?_⟩
   rw [hr] at hj
   obtain rfl : j = i := by simpa using hj
   refine wpOp_mono (fun a' w' h' => ⟨h'.1, ih _ a' w' (hcl.set (by rw [hr]; simp)) hc2 hl2 ?_ h'.2⟩) h
   rcases h'.1 with h1 | h1
   ·exact .inl (by simpa using hl1.resolve_left (by rw [h1]; simp))
   ·rcases hSw with hSw | hSw
    ·exact .inl (by simp only [List.all_cons, Bool.and_eq_true] at hSw; exact hSw.2)
    ·exact .inr (h1 hSw)
  ·rename_i hE
   rw [if_neg hE] at h
   simp only [Bool.and_eq_true] at hc1
   obtain ⟨⟨⟨hready, hfree⟩, hsome⟩, hlate⟩ := hc1
   cases ho : ops[i]? with
   | none => rw [ho] at hsome; cases hsome
   | some o =>
    rw [ho] at h
    obtain ⟨v, hy, hrest⟩ := h
    have hi : i ∈ Region.ready .any ops listed := by simpa using hready
    have hSr : (rest.all fun j => E j.1 || N j.1) = true ∨ S w := by
     rcases hSw with hSw | hSw
     ·exact .inl (by simp only [List.all_cons, Bool.and_eq_true] at hSw; exact hSw.2)
     ·exact .inr hSw
    have hrec := ih _ _ _ (hcl.set hi) hc2 hl2 hSr hrest
    by_cases hN : N i = true
    ·rw [if_pos hN] at hy
     exact o7 (depth := ops.size) (fun _ => True) ho (Region.noSelect_spec hs) (fun c a w => hQ o.dst v c a w) (.inl fun _ => trivial) (f7 rest) listed a w hcl (Region.free_spec ho hfree) hi hy trivial hrec
    ·rw [if_neg hN] at hy
     have hS : S w := hSw.resolve_left (by simp [hE, hN])
     refine o7 (depth := ops.size) S ho (Region.noSelect_spec hs) (fun c a w => hQ o.dst v c a w) (.inr ⟨rfl, ?_⟩) (f7 rest) listed a w hcl (Region.free_spec ho hfree) hi hy hS hrec
     intro j oj hoj hlj hne
     have hlate' := (Bool.or_eq_true _ _ ▸ hlate).resolve_left hN
     rw [List.all_eq_true] at hlate'
     have := hlate' j (List.mem_range.2 (Array.getElem?_eq_some_iff.1 hoj).1)
     simp only [Bool.or_eq_true, Bool.not_eq_true', beq_iff_eq] at this
     rcases this with (h1 | h1) | h1
     ·rw [hlj] at h1; cases h1
     ·exact absurd h1 hne
     ·exact h1

/-- A region that draws its order, by one order of it. -/
theorem zo {l : List Oper} (S : World → Prop) (π : List (Nat × Option Nat)) (E N late : Nat → Bool) {a : Act} {w : World}
  (hQ : ∀ (o : Option Tmp) (v : Value) c a w, Q (.panic c) (a.put o v) w → Q (.panic c) a w)
  (hchk : (Region.noSelect l.toArray && (lu l.toArray late E N π (Array.replicate l.toArray.size false) && (n9 late E N π && f7 π == l.toArray.size))) = true)
  (hS : S w.drew) (h : eu P l.toArray Q S late E N π a w.drew) : wpAny P .any l.toArray Q l.toArray.size (Array.replicate l.toArray.size false) a w.drew := by
 simp only [Bool.and_eq_true, beq_iff_eq] at hchk
 obtain ⟨h1, h2, h3, h4⟩ := hchk
 have hsound := zm h1 hQ π (Array.replicate l.toArray.size false) a w.drew (by
  intro j o _ hj
  rw [Array.getD_eq_getD_getElem?, Array.getElem?_replicate] at hj
  split at hj <;> simp at hj) h2 h3 (.inr hS) h
 rw [h4] at hsound
 exact ra (S := S) (late := late) _ _ _ _ hsound

theorem tq {E N : Nat → Bool} {a : Act} {w : World} (h : Q .normal a w) : eu P ops Q S late E N [] a w := h

/-- What only reads. -/
theorem zn {E N : Nat → Bool} {i : Nat} {rest : List (Nat × Option Nat)} {o : Oper} {v : Value} {a : Act} {w : World} (hE : E i = false) (hN : N i = false) (ho : ops[i]? = some o) (hw : Region.wanted o (yielded ops a.tmps) = true)
  (hy : ∀ w', S w' → (execOp a.eval o).run P w' = .ok (.value v) w') (h : eu P ops Q S late E N rest (a.put o.dst v) w) : eu P ops Q S late E N ((i, none) :: rest) a w := by
 simp only [eu, hE, hN, ho]
 exact ⟨v, .inl ⟨hw, hy⟩, h⟩

/-- What needs no world. -/
theorem tp {E N : Nat → Bool} {i : Nat} {rest : List (Nat × Option Nat)} {o : Oper} {v : Value} {a : Act} {w : World} (hE : E i = false) (hN : N i = true) (ho : ops[i]? = some o) (hw : Region.wanted o (yielded ops a.tmps) = true)
  (hy : ∀ w', (execOp a.eval o).run P w' = .ok (.value v) w') (h : eu P ops Q S late E N rest (a.put o.dst v) w) : eu P ops Q S late E N ((i, none) :: rest) a w := by
 simp only [eu, hE, hN, ho, if_true]
 exact ⟨v, .inl ⟨hw, fun w' _ => hy w'⟩, h⟩

/-- What is passed over. -/
theorem tn {E N : Nat → Bool} {i : Nat} {rest : List (Nat × Option Nat)} {o : Oper} {a : Act} {w : World} (hE : E i = false) (ho : ops[i]? = some o) (hw : Region.wanted o (yielded ops a.tmps) = false)
  (h : eu P ops Q S late E N rest (a.put o.dst undef) w) : eu P ops Q S late E N ((i, none) :: rest) a w := by
 simp only [eu, hE, ho]
 exact ⟨undef, .inr ⟨hw, rfl⟩, h⟩

/-- What writes, makes or calls. -/
theorem q9 {E N : Nat → Bool} {i : Nat} {rest : List (Nat × Option Nat)} {o : Oper} {a : Act} {w : World} (hE : E i = true) (ho : ops[i]? = some o)
  (h : ∀ K : Act → World → Prop, (∀ a' w', (late i = true ∨ (S w → S w')) → eu P ops Q S late E N rest a' w' → K a' w') → if Region.wanted o (yielded ops a.tmps) = true then Oper.wp P o a w K Q else K (a.put o.dst undef) w) : eu P ops Q S late E N ((i, none) :: rest) a w := by
 simp only [eu, hE, if_true]
 exact wpOp_step ho fun K hK => h K fun a' w' h1 h2 => hK a' w' ⟨h1, h2⟩
end
end Go.AB
namespace Go.AB
open Go Go.RowKit
variable {ρ : Option Nat}

theorem Sim.drew {E : Env} {w : World} {st : St} {a : Act} (h : Sim E w st a) : Sim E w.drew st a :=
 have hb : Below E.B w w.drew := (Below.refl _ _).drew
 ⟨h.d.ev (Ev.same hb rfl), h.sz, fun i v hv => (h.t i v hv).ev (Ev.same hb rfl), h.g.same hb rfl⟩

def iv (Q : Act → World → Prop) : Exit → Act → World → Prop
 | .normal, a, w => Q a w
 | _, _, _ => False

section
variable (P : Program) (ops : Array Oper) (K : St → Prop) (D : List Nat) (late Ef N : Nat → Bool)

/-- The quiet part. -/
def iw (π : List (Nat × Option Nat)) (st : St) : Prop :=
 ∀ (E0 : Env) (w0 : World) (Q : Act → World → Prop), (∀ a' w' st' E', Ev E0 w0 E' w' → Sim E' w' st' a' → K st' → Q a' w') → ∀ a, Sim E0 w0 st a → eu P ops (iv Q) (Keeps E0 (· ∈ D) w0) late Ef N π a w0
/-- .. and what acts; b: something late has come up. -/
def jb (b : Bool) (π : List (Nat × Option Nat)) (st : St) : Prop :=
 ∀ (E0 : Env) (w0 : World) (Q : Act → World → Prop), (∀ a' w' st' E', Ev E0 w0 E' w' → Sim E' w' st' a' → K st' → Q a' w') → ∀ E1 w1 a, Ev E0 w0 E1 w1 → Sim E1 w1 st a → (b = false → ∀ n ∈ D, E1.T n = E0.T n) → eu P ops (iv Q) (Keeps E0 (· ∈ D) w0) late Ef N π a w1
end

def stamp : GObj → Nat × Nat
 | .box wv _ => (0, wv)
 | .arr ver wv _ _ _ _ => (ver, wv)
 | .tip len _ _ => (len, 0)
 | .fact _ _ => (0, 0)
 | .map wv _ _ => (0, wv)
 | .raw wv _ => (0, wv)

theorem ObjOk.stamp {E : Env} {w : World} {n : Nat} {o : GObj} (h : ObjOk E w n o) : ∃ val, E.T n = some ((stamp o).1, (stamp o).2, val) := by
 cases o with
 | box => obtain ⟨b, us, tt, h1, _⟩ := h; exact ⟨_, h1⟩
 | arr => obtain ⟨b, us, h1, _⟩ := h; exact ⟨_, h1⟩
 | tip => obtain ⟨b, us, h1, _⟩ := h; exact ⟨_, h1⟩
 | fact => exact ⟨_, h.1⟩
 | raw => obtain ⟨b, h1, _⟩ := h; exact ⟨_, h1⟩
 | map => obtain ⟨r, es, cl, h1, _⟩ := h; exact ⟨_, h1⟩

/-- The objects of D are as they were. -/
def oy (D : List Nat) (st st' : St) : Prop := ∀ n ∈ D, ∃ o o', st.G n = some o ∧ st'.G n = some o' ∧ stamp o = stamp o'

theorem w6 {D : List Nat} {E1 E2 : Env} {w1 w2 : World} {st st' : St} {a a' : Act} (h1 : Sim E1 w1 st a) (h2 : Ev E1 w1 E2 w2) (h3 : Sim E2 w2 st' a') (hD : oy D st st') :
  ∀ n ∈ D, E2.T n = E1.T n ∧ ∀ ver wv val b, E1.T n = some (ver, wv, val) → blk val = some b → w2.heap[b]? = w1.heap[b]? := by
 intro n hn
 obtain ⟨o, o', e1, e2, e3⟩ := hD n hn
 obtain ⟨val1, t1⟩ := (h1.g.obj n o e1).stamp
 obtain ⟨val2, t2⟩ := (h3.g.obj n o' e2).stamp
 have hn1 := h1.g.lt n _ t1
 obtain ⟨v1, wv1, x1, q1, q2, q3⟩ := h2.T n hn1 _ _ _ t2
 rw [t1] at q1
 simp only [Option.some.injEq, Prod.mk.injEq] at q1
 obtain ⟨rfl, rfl, rfl⟩ := q1
 obtain ⟨q4, q5⟩ := q3 (by rw [e3])
 subst q4
 refine ⟨by rw [t2, t1, e3], fun ver wv val b ht hb => ?_⟩
 rw [t1] at ht
 simp only [Option.some.injEq, Prod.mk.injEq] at ht
 obtain ⟨rfl, rfl, rfl⟩ := ht
 exact q5 (by rw [e3]) b hb

section
variable {P : Program} {ol : List Oper} {K : St → Prop} {D : List Nat} {late Ef N : Nat → Bool} {i : Nat} {π : List (Nat × Option Nat)} {o : Oper} {st : St} {c : C} {b : Bool}

theorem ak (hE : Ef i = false) (hN : N i = true) (hol : ol[i]? = some o) (hg : eg ol.toArray st o = some true) (hq : NStep P o st c) (h : iw P ol.toArray K D late Ef N π (st.put o.dst c)) : iw P ol.toArray K D late Ef N ((i, none) :: π) st := by
 have ho : ol.toArray[i]? = some o := by simpa using hol
 intro E0 w0 Q hQ a hs
 obtain ⟨v, h1, h2⟩ := hq E0 w0 a hs
 exact tp (v := v) hE hN ho (i7 hg hs) h2 (h E0 w0 Q hQ _ (hs.put o.dst h1))
theorem af (hE : Ef i = false) (hN : N i = false) (hol : ol[i]? = some o) (hg : eg ol.toArray st o = some true) (hq : SStep P (· ∈ D) o st c) (h : iw P ol.toArray K D late Ef N π (st.put o.dst c)) : iw P ol.toArray K D late Ef N ((i, none) :: π) st := by
 have ho : ol.toArray[i]? = some o := by simpa using hol
 intro E0 w0 Q hQ a hs
 obtain ⟨v, h1, h2⟩ := hq E0 w0 a hs
 exact zn (v := v) hE hN ho (i7 hg hs) h2 (h E0 w0 Q hQ _ (hs.put o.dst h1))
theorem bp (hE : Ef i = false) (hol : ol[i]? = some o) (hg : eg ol.toArray st o = some false) (h : iw P ol.toArray K D late Ef N π (st.put o.dst (.tup []))) : iw P ol.toArray K D late Ef N ((i, none) :: π) st := by
 have ho : ol.toArray[i]? = some o := by simpa using hol
 intro E0 w0 Q hQ a hs
 exact tn hE ho (i7 hg hs) (h E0 w0 Q hQ _ (hs.put o.dst (R.undef E0 w0)))
theorem ie (h : jb P ol.toArray K D late Ef N false π st) : iw P ol.toArray K D late Ef N π st :=
 fun E0 w0 Q hQ a hs => h E0 w0 Q hQ E0 w0 a (Ev.refl E0 w0) hs fun _ _ _ => rfl
theorem dc (h : K st) : iw P ol.toArray K D late Ef N [] st := fun E0 w0 _ hQ a hs => tq (hQ a w0 st E0 (Ev.refl E0 w0) hs h)
theorem ib (h : K st) : jb P ol.toArray K D late Ef N b [] st := fun _ _ _ hQ E1 w1 a hev hs _ => tq (hQ a w1 st E1 hev hs h)
theorem c0 (hE : Ef i = false) (hN : N i = true) (hol : ol[i]? = some o) (hg : eg ol.toArray st o = some true) (hq : NStep P o st c) (h : jb P ol.toArray K D late Ef N b π (st.put o.dst c)) : jb P ol.toArray K D late Ef N b ((i, none) :: π) st := by
 have ho : ol.toArray[i]? = some o := by simpa using hol
 intro E0 w0 Q hQ E1 w1 a hev hs hb
 obtain ⟨v, h1, h2⟩ := hq E1 w1 a hs
 exact tp (v := v) hE hN ho (i7 hg hs) h2 (h E0 w0 Q hQ E1 w1 _ hev (hs.put o.dst h1) hb)
theorem ufn (hE : Ef i = false) (hol : ol[i]? = some o) (hg : eg ol.toArray st o = some false) (h : jb P ol.toArray K D late Ef N b π (st.put o.dst (.tup []))) : jb P ol.toArray K D late Ef N b ((i, none) :: π) st := by
 have ho : ol.toArray[i]? = some o := by simpa using hol
 intro E0 w0 Q hQ E1 w1 a hev hs hb
 exact tn hE ho (i7 hg hs) (h E0 w0 Q hQ E1 w1 _ hev (hs.put o.dst (R.undef E1 w1)) hb)
theorem zb (hE : Ef i = true) (hol : ol[i]? = some o) (hg : eg ol.toArray st o = some false) (h : jb P ol.toArray K D late Ef N b π (st.put o.dst (.tup []))) : jb P ol.toArray K D late Ef N b ((i, none) :: π) st := by
 have ho : ol.toArray[i]? = some o := by simpa using hol
 intro E0 w0 Q hQ E1 w1 a hev hs hb
 refine q9 hE ho fun Kr hK => ?_
 rw [if_neg (by rw [i7 hg hs]; simp)]
 exact hK _ _ (.inr id) (h E0 w0 Q hQ E1 w1 _ hev (hs.put o.dst (R.undef E1 w1)) hb)
/-- What acts, and leaves the objects of D. -/
theorem ge (hE : Ef i = true) (hol : ol[i]? = some o) (hg : eg ol.toArray st o = some true) (h : EStep P o st fun st' => oy D st st' ∧ jb P ol.toArray K D late Ef N false π st') : jb P ol.toArray K D late Ef N false ((i, none) :: π) st := by
 have ho : ol.toArray[i]? = some o := by simpa using hol
 intro E0 w0 Q hQ E1 w1 a hev hs hb
 refine q9 hE ho fun Kr hK => ?_
 rw [if_pos (i7 hg hs)]
 refine h E1 w1 a hs Kr _ fun a' w' st' E' h1 h2 h3 => ?_
 have hk := w6 hs h1 h2 h3.1
 refine hK a' w' (.inr fun hS => ⟨fun b i hi => (h1.cell b i (Nat.lt_of_lt_of_le hi (hev.L b))).trans (hS.1 b i hi), fun n hn ver wv val b ht hb' => ?_⟩) (h3.2 E0 w0 Q hQ E' w' a' (hev.trans h1) h2 fun e n hn => (hk n hn).1.trans (hb e n hn))
 have := hb rfl n hn
 exact ((hk n hn).2 ver wv val b (this.trans ht) hb').trans (hS.2 n hn ver wv val b ht hb')
/-- What acts when all that reads has come up. -/
theorem ez (hE : Ef i = true) (hL : late i = true) (hol : ol[i]? = some o) (hg : eg ol.toArray st o = some true) (h : EStep P o st (jb P ol.toArray K D late Ef N true π)) : jb P ol.toArray K D late Ef N b ((i, none) :: π) st := by
 have ho : ol.toArray[i]? = some o := by simpa using hol
 intro E0 w0 Q hQ E1 w1 a hev hs hb
 refine q9 hE ho fun Kr hK => ?_
 rw [if_pos (i7 hg hs)]
 refine h E1 w1 a hs Kr _ fun a' w' st' E' h1 h2 h3 => ?_
 exact hK a' w' (.inl hL) (h3 E0 w0 Q hQ E' w' a' (hev.trans h1) h2 fun e => by cases e)

def n8 (l : List Oper) : Bool := l.all fun o => !qe o.op
theorem ubu {l : List Oper} (h : n8 l = true) {i : Nat} {o : Oper} (ho : l.toArray[i]? = some o) : ∀ c, o.op ≠ .defer c := fun c e => by
 have ho' : l[i]? = some o := by simpa using ho
 have := List.all_eq_true.1 h o (List.mem_of_getElem? ho')
 simp [e, qe] at this
theorem o6 {l : List Oper} {q : Act → World → Prop} (hd : n8 l = true) : ∀ (fuel : Nat) (listed : Array Bool) (a : Act) (w : World), wpAny P .any l.toArray (iv q) fuel listed a w → wpAnyIn (fen ρ) 1 P .any l.toArray (iv q) fuel listed a w
 | 0, _, _, _, h => h
 | fuel + 1, listed, a, w, h => by
  refine ⟨h.1, fun i hi => ?_⟩
  have h2 := h.2 i hi
  unfold wpOp at h2
  unfold wpOpIn
  cases ho : l.toArray[i]? with
  | none => rw [ho] at h2; exact o6 hd fuel _ _ _ h2
  | some o =>
   rw [ho] at h2
   dsimp only at h2 ⊢
   split
   ·rename_i hw
    rw [if_pos hw] at h2
    rcases h2 with h2 | ⟨_, a0, w0, h2⟩
    ·exact Oper.wpIn_mono (fun a w => o6 hd fuel _ a w) (r9 (ubu hd ho) h2)
    ·exact h2.elim
   ·rename_i hw
    rw [if_neg hw] at h2
    exact ⟨fun _ _ => trivial, o6 hd fuel _ _ _ h2⟩
theorem ya {id : Nat} {l : List Oper} {q : Act → World → Prop} {a : Act} {w : World} (hm : P.follows .mixedOrders = true) (hd : n8 l = true) (h : wpAny P .any l.toArray (iv q) l.toArray.size (Array.replicate l.toArray.size false) a w.drew) : cwp ρ P (.region id l.toArray true) (iv q) a w :=
 wpIn_region_any hm (o6 hd _ _ _ _ h)
theorem fw {id : Nat} {l : List Oper} {Q : Exit → St → Prop} (π : List (Nat × Option Nat)) (late Ef N : Nat → Bool) (D : List Nat) (hm : P.follows .mixedOrders = true)
  (hchk : (n8 l && (Region.noSelect l.toArray && (lu l.toArray late Ef N π (Array.replicate l.toArray.size false) && (n9 late Ef N π && f7 π == l.toArray.size)))) = true)
  (h : iw P l.toArray (Q .normal) D late Ef N π st) : AW ρ P (.region id l.toArray true) Q st := by
 intro E w a hs
 rw [Bool.and_eq_true] at hchk
 have hev : Ev E w E w.drew := Ev.same ((Below.refl _ _).drew) rfl
 refine gd (Q := iv fun a' w' => kq E w Q .normal a' w') ?_ (ya hm hchk.1 (zo (Keeps E (· ∈ D) w.drew) π Ef N late (fun _ _ _ _ _ h => h) hchk.2 (Keeps.refl _ _ _) (h E w.drew _ (fun a' w' st' E' h1 h2 h3 => ⟨st', E', hev.trans h1, h2, h3⟩) a hs.drew)))
 intro e a' w' hq
 cases e with
 | normal => exact hq
 | _ => exact hq.elim
end
end Go.AB
namespace Go.AB
open Go Go.RowKit

/-- A value's cells. -/
def ir : C → Option (List C)
 | .agg cs => some cs
 | .tup _ | .any => none
 | c => some [c]

theorem R.cells {E : Env} {w : World} {c : C} {v : Value} {cs : List C} (h : R E w c v) (hc : ir c = some cs) : Rs E w cs v.cells.toList ∧ ∀ x ∈ cs, x.one = true := by
 have one : ∀ {c : C} {v : Value}, R E w c v → c.one = true → v.cells = #[v] → cs = [c] → Rs E w cs v.cells.toList ∧ ∀ x ∈ cs, x.one = true := by
  intro c v h h1 hv hcs
  subst hcs
  rw [hv]
  exact ⟨Rs.cons h Rs.nil, by simpa using h1⟩
 have hv1 : ∀ v : Value, v.oneCell' = true → v.cells = #[v] := by intro v; cases v <;> first | (intro _; rfl) | (intro h; cases h)
 cases c with
 | agg ds =>
  simp only [ir, Option.some.injEq] at hc
  subst hc
  obtain ⟨vs, rfl, h1, h2⟩ := h.agg_inv
  exact ⟨by simpa [Value.cells] using h1, h2⟩
 | tup => simp [ir] at hc
 | any => simp [ir] at hc
 | _ =>
  simp only [ir, Option.some.injEq] at hc
  exact one h rfl (hv1 _ (h.one rfl)) hc.symm

/-- A value's cells are each one cell. -/
theorem Rs.oneCell {E : Env} {w : World} {cs : List C} {vs : List Value} (h : Rs E w cs vs) (h1 : ∀ c ∈ cs, c.one = true) : ∀ u ∈ vs, u.oneCell' = true := by
 intro u hu
 obtain ⟨j, hj⟩ := List.getElem?_of_mem hu
 have hlt : j < cs.length := by rw [← h.1]; exact (List.getElem?_eq_some_iff.1 hj).1
 exact (h.2 j _ u (List.getElem?_eq_getElem hlt) hj).one (h1 _ (List.getElem_mem hlt))

theorem jw {w : World} {b j : Nat} {us : Array Value} {tt : TypeId} {u : Value} (h : w.heap[b]? = some (.cells us tt (0, 0))) (hj : us[j]? = some u) : w.cell? ⟨b, j, none⟩ = some u := by
 simp [World.cell?, h, hj]

theorem kr (w : World) (o : Obj) : (w.alloc o).heap[w.heap.size]? = some o := heap_alloc_new w o

/-- New cells, laid for good. -/
theorem ucu {E : Env} {w : World} {G : Nat → Option GObj} {nx : Nat} (hg : SimG E w G nx) {cs : List C} {us : Array Value} {tt : TypeId} (hr : Rs E w cs us.toList) (h1 : ∀ c ∈ cs, c.one = true) (hne : cs ≠ []) :
  R (E.lay w.heap.size us.size) (w.alloc (.cells us tt)) (.elem cs) (.pointer (some ⟨w.heap.size, 0, none⟩)) := by
 have hev := Ev.laid hg (o := .cells us tt) us.size (.inl rfl) (ow w us tt)
 have hr' := hr.ev hev
 refine .elem (us := fun j => us.toList.getD j undef) hne h1 (.inr ⟨w.heap.size, 0, rfl, ?_, fun j hj => ?_⟩) hr'.us.1
 ·simp only [Env.lay, if_true, Nat.zero_add]
  rw [← hr.1]; simp
 ·rw [Nat.zero_add]
  refine jw (kr w _) ?_
  rw [← Array.getElem?_toList]
  exact hr'.us.2 j hj

/-- New cells, with a name. -/
theorem ubw {E : Env} {w : World} {st : St} {a : Act} (hs : Sim E w st a) {cs : List C} {us : Array Value} (tt : TypeId) (hr : Rs E w cs us.toList) (h1 : ∀ c ∈ cs, c.one = true) :
  ∃ E', Ev E w E' (w.alloc (.cells us tt)) ∧ R E' (w.alloc (.cells us tt)) (.box st.nx 0 0) (.pointer (some ⟨w.heap.size, 0, none⟩)) ∧ SimG E' (w.alloc (.cells us tt)) (bc st.G st.nx (.box 0 cs)) (st.nx + 1) := by
 have hev1 := Ev.laid hs.g (o := .cells us tt) 0 (.inl rfl)
 have hg1 := SimG.laid hs.g (o := .cells us tt) 0 (.inl rfl)
 have hnx := hg1.nx
 have hev2 := hev1.thenName (.pointer (some ⟨w.heap.size, 0, none⟩)) (fun b o hb ho => by simp only [blk, Option.some.injEq] at hb; subst hb; have := (Array.getElem?_eq_some_iff.1 ho).1; omega)
 refine ⟨_, hev2, ?_, SimG.name hg1 (.pointer (some ⟨w.heap.size, 0, none⟩)) (.box 0 cs) ?_ ?_⟩
 ·refine .box (by simp only [Env.name, Env.lay] at hnx ⊢; omega) fun ver' wv val ht => ?_
  simp only [Env.name] at ht
  rw [if_pos (by rw [← hnx])] at ht
  simp only [Option.some.injEq, Prod.mk.injEq] at ht
  obtain ⟨rfl, rfl, rfl⟩ := ht
  exact ⟨Nat.le_refl _, fun _ => rfl⟩
 ·intro b hb
  simp only [blk, Option.some.injEq] at hb
  subst hb
  refine ⟨hs.g.base, by simp, fun n t ht hb => ?_⟩
  have := (hs.g.tb n t.1 t.2.1 t.2.2 _ ht hb).2
  omega
 ·refine ⟨w.heap.size, us, tt, ?_, kr w _, h1, hr.ev hev2, ?_⟩
  ·simp only [Env.name]; rw [if_pos (by rw [← hnx])]
  ·simp [Env.name, Env.lay]

section
variable {P : Program} {o : Oper} {st : St} {K : St → Prop}

theorem kh {K : St → Prop} (h : ∀ E w a, Sim E w st a → ∃ v w' E' G' nx' c, (execOp a.eval o).run P w = .ok (.value v) w' ∧ Ev E w E' w' ∧ R E' w' c v ∧ SimG E' w' G' nx' ∧ K (St.put { st with G := G', nx := nx' } o.dst c)) : EStep P o st K := by
 intro E w a hs Kr Q hq
 obtain ⟨v, w', E', G', nx', c, h1, h2, h3, h4, h5⟩ := h E w a hs
 unfold Oper.wp
 rw [h1]
 exact hq _ _ _ _ h2 ((hs.evd h2 h4).put o.dst h3) h5

theorem cw {e : TypeId} {x : Operand} {cs : List C} (ho : o.op = .box e x) (hx : ir (evC st x) = some cs) (hne : cs ≠ []) (h : K (st.put o.dst (.elem cs))) : EStep P o st K :=
 kh fun E w a hs => by
  obtain ⟨hr, h1⟩ := (hs.ev x).cells hx
  exact ⟨.pointer (some ⟨w.heap.size, 0, none⟩), w.alloc (.cells (a.eval x).cells e), _, st.G, st.nx, _, by simp [execOp, ho, Instr.box, newVar, newRow, newObj, Sem.run], Ev.laid hs.g _ (.inl rfl) (ow _ _ _), ucu hs.g hr h1 hne, SimG.laid hs.g _ (.inl rfl) (ow _ _ _), h⟩
/-- A type's zero value. -/
class Zero (P : Program) (t : TypeId) (v : outParam Value) : Prop where
 chk : (P.info? t).bind (fun i => i.zero) = some v
theorem Zero.run {t : TypeId} {v : Value} [h : Zero P t v] {w : World} : (zeroValue t).run P w = .ok v w := by
 have := h.chk
 cases hi : P.info? t with
 | none => rw [hi] at this; cases this
 | some i =>
  rw [hi] at this
  have hz : i.zero = some v := this
  simp [zeroValue, typeInfo, hi, hz]

/-- Cells written over. -/
def putAt (cs : List C) (off : Nat) : List C → List C
 | [] => cs
 | x :: r => putAt (cs.set off x) (off + 1) r

theorem n2 (cs : List C) (off : Nat) (new : List C) (h : off + new.length ≤ cs.length) : putAt cs off new = cs.take off ++ new ++ cs.drop (off + new.length) := by
 induction new generalizing cs off with
 | nil => simp [putAt]
 | cons x r ih =>
  simp only [List.length_cons] at h
  rw [putAt, ih _ _ (by simp; omega), List.take_set, List.drop_set_of_lt (by omega)]
  have e1 : (cs.take (off + 1)).set off x = cs.take off ++ [x] := by
   rw [List.set_eq_take_append_cons_drop, if_pos (by simp; omega), List.take_take, Nat.min_eq_left (by omega), List.drop_eq_nil_of_le (by simp; omega)]
  rw [e1]
  simp [Nat.add_assoc, Nat.add_comm 1]

theorem Rs.putAt {E : Env} {w : World} {cs new : List C} {vs us : List Value} (h : Rs E w cs vs) (k : Rs E w new us) {off : Nat} (hb : off + new.length ≤ cs.length) : Rs E w (putAt cs off new) (vs.take off ++ us ++ vs.drop (off + us.length)) := by
 rw [n2 cs off new hb, k.1]
 exact ((h.take off).append k).append (h.dropn _)

/-- What the run of a store into a named variable leaves. -/
theorem z8 {E : Env} {w : World} {st : St} {a : Act} (hs : Sim E w st a) {t : TypeId} {ag : Bool} {sz : Nat} [Ty P t ag sz] {n off wv : Nat} {cs new : List C} {p v : Value} (hp : R E w (.box n 0 off) p) (hG : st.G n = some (.box wv cs)) (hv : Rs E w new v.cells.toList) (h1 : ∀ c ∈ new, c.one = true) (hsz : new.length = sz) (hb : off + sz ≤ cs.length) :
  ∃ w' E', (Instr.storeAt t p v).run P w = .ok () w' ∧ Ev E w E' w' ∧ SimG E' w' (bc st.G n (.box (wv + 1) (putAt cs off new))) st.nx := by
 obtain ⟨b, us, tt, hT, hh, hone, hr, hL⟩ := hs.g.obj n _ hG
 cases hp with
 | @box _ _ _ b' hn hp =>
  have hb' : b' = b := by
   have := (hp _ _ _ hT).2 rfl
   simp only [blk, Option.some.injEq] at this
   exact this.symm
  subst hb'
  have hlen := hr.1
  have hvl := hv.1
  simp only [Array.length_toList] at hlen hvl
  have h2 := Ty.size (P := P) (w := w) (t := t) (ag := ag) (n := sz)
  have hst := run_storeCells_at (P := P) b' off tt v.cells.toList 0 us w hh (by simp; omega) (hv.oneCell h1)
  have hrun : (Instr.storeAt t (.pointer (some ⟨b', off, none⟩)) v).run P w = .ok () (w.setRow b' (us.toList.take (off + 0) ++ v.cells.toList ++ us.toList.drop (off + 0 + v.cells.toList.length)).toArray) := by
   simp only [Instr.storeAt, Instr.sureAddr, storeVar, Sem.run_bind, Sem.run_pure, Result.andThen_ok, h2]
   rw [if_neg (by omega)]
   exact hst
  simp only [Nat.add_zero] at hrun
  refine ⟨_, E.chg n (0, wv + 1, .pointer (some ⟨b', 0, none⟩)) 0, hrun, ?_⟩
  have hchg : Chg E w (w.setRow b' (us.toList.take off ++ v.cells.toList ++ us.toList.drop (off + v.cells.toList.length)).toArray) 0 wv (.pointer (some ⟨b', 0, none⟩)) 0 (wv + 1) (.pointer (some ⟨b', 0, none⟩)) 0 := by
   refine ⟨?_, fun k _ hk => setRow_other w b' k _ (fun e => hk (by simp [blk, e])), fun b hb => .inl ⟨hb, ?_⟩, fun b i hb hi => ?_, .inr ⟨rfl, rfl, by omega⟩, fun b o hb ho => ?_, fun hv => absurd hv (Nat.lt_irrefl _), fun b _ hl => absurd hl (Nat.not_lt_zero _)⟩
   ·have := hs.g.tb n _ _ _ b' hT rfl
    exact ⟨rfl, rfl, rfl, by simp [World.setRow], fun k hk => setRow_other w b' k _ (by omega)⟩
   ·simp only [blk, Option.some.injEq] at hb; subst hb; omega
   ·simp only [blk, Option.some.injEq] at hb; subst hb; omega
   ·simp only [blk, Option.some.injEq] at hb; subst hb; rw [hh] at ho; cases ho; exact ⟨_, setRow_heap w b' us _ tt _ hh, rfl⟩
  refine ⟨Ev.chg hs.g hT hchg, SimG.chg hs.g hT hchg ?_⟩
  refine ⟨b', _, tt, by simp [Env.chg], setRow_heap w b' us _ tt _ hh, ?_, ?_, by simp [Env.chg, blk]⟩
  ·rw [n2 cs off new (by omega)]
   intro c hc
   rcases List.mem_append.1 hc with hc | hc
   ·rcases List.mem_append.1 hc with hc | hc
    ·exact hone c (List.mem_of_mem_take hc)
    ·exact h1 c hc
   ·exact hone c (List.mem_of_mem_drop hc)
  ·have hev := Ev.chg hs.g hT hchg
   exact (hr.ev hev).putAt (hv.ev hev) (by omega)

theorem xu {t : TypeId} {ag : Bool} {sz : Nat} [Ty P t ag sz] {x y : Operand} {n off wv : Nat} {cs new : List C} (ho : o.op = .store t x y) (hd : o.dst = none) (hx : evC st x = .box n 0 off) (hG : st.G n = some (.box wv cs)) (hy : ir (evC st y) = some new) (hsz : new.length = sz) (hb : off + sz ≤ cs.length)
  (h : K { st with G := bc st.G n (.box (wv + 1) (putAt cs off new)), nx := st.nx }) : EStep P o st K := by
 intro E w a hs Kr Q hq
 obtain ⟨hr, h1⟩ := (hs.ev y).cells hy
 obtain ⟨w', E', hrun, hev, hg⟩ := z8 (P := P) (t := t) hs (hx ▸ hs.ev x) hG hr h1 hsz hb
 unfold Oper.wp
 have : (execOp a.eval o).run P w = .ok .skip w' := by simp [execOp, ho, hrun]
 rw [this]
 have h2 := hs.evd hev hg
 refine hq _ _ _ E' hev ?_ h
 simpa [Act.put, hd] using h2

/-- What a named variable holds. -/
theorem a7 {D : Nat → Prop} {t : TypeId} [Ty P t false 1] {x : Operand} {n off wv : Nat} {cs : List C} {c : C} (ho : o.op = .load t x) (hx : evC st x = .box n 0 off) (hG : st.G n = some (.box wv cs)) (hD : D n) (hc : cs[off]? = some c) : SStep P D o st c := fun E w a hs => by
 obtain ⟨b, us, tt, hT, hh, hone, hr, hL⟩ := hs.g.obj n _ hG
 have hp := hx ▸ hs.ev x
 generalize hv : a.eval x = p at hp
 cases hp with
 | @box _ _ _ b' hn hp =>
  have hb' : b' = b := by
   have := (hp _ _ _ hT).2 rfl
   simp only [blk, Option.some.injEq] at this
   exact this.symm
  subst hb'
  have hlt : off < us.toList.length := by rw [hr.1]; exact (List.getElem?_eq_some_iff.1 hc).1
  refine ⟨us.toList[off], hr.2 off c _ hc (List.getElem?_eq_getElem hlt), fun w' hk => ?_⟩
  have h3 := hk.2 n hD _ _ _ b' hT rfl
  have h4 : w'.cell? ⟨b', off, none⟩ = some us.toList[off] := jw (h3.trans hh) (by rw [← Array.getElem?_toList]; exact List.getElem?_eq_getElem hlt)
  simp [execOp, ho, hv, rn (P := P) (t := t) h4]
theorem a8 {D : Nat → Prop} {t : TypeId} {sz : Nat} [Ty P t true sz] {x : Operand} {n off wv : Nat} {cs : List C} (ho : o.op = .load t x) (hx : evC st x = .box n 0 off) (hG : st.G n = some (.box wv cs)) (hD : D n) (hc : off + sz ≤ cs.length) : SStep P D o st (.agg ((cs.drop off).take sz)) := fun E w a hs => by
 obtain ⟨b, us, tt, hT, hh, hone, hr, hL⟩ := hs.g.obj n _ hG
 have hp := hx ▸ hs.ev x
 generalize hv : a.eval x = p at hp
 cases hp with
 | @box _ _ _ b' hn hp =>
  have hb' : b' = b := by
   have := (hp _ _ _ hT).2 rfl
   simp only [blk, Option.some.injEq] at this
   exact this.symm
  subst hb'
  have hr2 := (hr.dropn off).take sz
  refine ⟨.agg ((us.toList.drop off).take sz).toArray, hr2.agg (fun c hc => hone c (List.mem_of_mem_drop (List.mem_of_mem_take hc))), fun w' hk => ?_⟩
  have h3 := hk.2 n hD _ _ _ b' hT rfl
  have hrun := nv (P := P) (t := t) (n := sz) (b := b') (off := off) (us := (us.toList.drop off).take sz) (w' := w') (by rw [hr2.1]; simp; omega) fun j v hj => by
   rw [List.getElem?_take] at hj
   split at hj
   ·rw [List.getElem?_drop] at hj
    exact jw (h3.trans hh) (by rw [← Array.getElem?_toList]; exact hj)
   ·cases hj
  simp only [execOp, ho, hv, Sem.run_bind, hrun, Result.andThen_ok]
  rfl

/-- A text's type; a slice that may be appended to: its element's cells and bytes. -/
class StrT (P : Program) (t : TypeId) : Prop where
 chk : (match P.underlying t with | some .string => true | _ => false) = true
theorem StrT.spec {t : TypeId} [h : StrT P t] : P.underlying t = some .string := by
 have := h.chk
 split at this
 ·assumption
 ·cases this
def y4 (P : Program) (t e : TypeId) (sz bytes : Nat) : Bool :=
 match P.underlying t, P.info? e with
 | some (.slice e'), some i => e' == e && i.size == sz && i.bytes == bytes && (match i.zero with | some z => z.cells.size == sz | none => false)
 | _, _ => false
class AppT (P : Program) (t : TypeId) (e : outParam TypeId) (sz bytes : outParam Nat) : Prop where
 chk : y4 P t e sz bytes = true
theorem AppT.spec {t e : TypeId} {sz bytes : Nat} [h : AppT P t e sz bytes] : P.underlying t = some (.slice e) ∧ ∃ i z, P.info? e = some i ∧ i.zero = some z ∧ i.size = sz ∧ i.bytes = bytes ∧ z.cells.size = sz := by
 have := h.chk
 unfold y4 at this
 split at this
 ·rename_i e' i h1 h2
  simp only [Bool.and_eq_true, beq_iff_eq] at this
  obtain ⟨⟨⟨q1, q2⟩, q3⟩, q4⟩ := this
  split at q4
  ·rename_i z hz
   exact ⟨q1 ▸ h1, i, z, h2, hz, q2, q3, by simpa using q4⟩
  ·cases q4
 ·cases this

theorem az {D : Nat → Prop} {t : TypeId} {sz : Nat} [Ty P t true sz] {x : Operand} {n wv : Nat} {cs : List C} (ho : o.op = .load t x) (hx : evC st x = .box n 0 0) (hG : st.G n = some (.box wv cs)) (hD : D n) (hc : cs.length = sz) : SStep P D o st (.agg cs) := by
 have := a8 (P := P) (D := D) ho hx hG hD (by omega)
 rwa [List.drop_zero, List.take_of_length_le (by omega)] at this

/-! ### Calls -/
/-- A function with a body. -/
def xc (P : Program) (f : FuncId) : Bool := match P.funcs[f]? with | some fn => fn.body.isSome && !(fn.name == "runtime.NumGoroutine") | none => false
class Fun (P : Program) (f : FuncId) : Prop where
 chk : xc P f = true
theorem ro {f : FuncId} [h : Fun P f] (args : Array Value) (w : World) : (callFunc f args).run P w = .ok (.enter f args) w := by
 have := h.chk
 unfold xc at this
 split at this
 ·rename_i fn hf
  simp only [Bool.and_eq_true, Bool.not_eq_true'] at this
  obtain ⟨h1, h2⟩ := this
  have h3 : fn.body.isNone = false := by cases hb : fn.body <;> simp_all
  have h4 : ¬ fn.name = "runtime.NumGoroutine" := by simpa using h2
  have h5 : ¬ fn.body = none := by intro e; rw [e] at h1; cases h1
  simp [callFunc, program, Sem.run, hf, h4, h5]
 ·cases this

theorem sw {f : FuncId} [Fun P f] {fv : Operand} {args : List Operand} {ats : Array TypeId} {caps as1 : List C} (ho : o.op = .call { callee := .value fv, args := args.toArray, argTypes := ats }) (hf : evC st fv = .fn (.func f) caps) (has : args.map (evC st) ++ caps = as1)
  (h : PC P f as1 st.G st.nx fun r G' nx' => K (St.put { st with G := G', nx := nx' } o.dst r)) : EStep P o st K := by
 intro E w a hs Kr Q hq
 obtain ⟨vs, e, hr⟩ := (hf ▸ hs.ev fv).fn_inv
 subst has
 have hra : Rs E w (args.map (evC st)) (args.map a.eval) := by
  refine ⟨by simp, fun j c v h1 h2 => ?_⟩
  rw [List.getElem?_map] at h1 h2
  cases hx : args[j]? with
  | none => rw [hx] at h1; cases h1
  | some x =>
   rw [hx] at h1 h2
   simp only [Option.map_some, Option.some.injEq] at h1 h2
   subst h1; subst h2
   exact hs.ev x
 have hall := hra.append hr
 unfold Oper.wp
 have hrun : (execOp a.eval o).run P w = .ok (.enter f (args.map a.eval ++ vs).toArray) w := by
  simp only [execOp, ho, resolve, e]
  simp [Deferred.ofValue, invoke, ro]
 rw [hrun]
 refine (h E w _ hall hs.g).mono ?_
 rintro e' w' ⟨r, v, E', G', nx', rfl, h1, h2, h3, h4⟩
 exact hq _ _ _ _ h1 ((hs.evd h1 h3).put o.dst h2) h4

theorem br {f : FuncId} [Fun P f] {fv : Operand} {args : List Operand} {ats : Array TypeId} {caps as1 : List C} {r : C} (ho : o.op = .call { callee := .value fv, args := args.toArray, argTypes := ats }) (hf : evC st fv = .fn (.func f) caps) (has : args.map (evC st) ++ caps = as1)
  (hp : Pure P f as1 r) (h : K (st.put o.dst r)) : EStep P o st K :=
 sw ho hf has ((hp st.G st.nx).mono fun r' G' nx' ⟨e1, e2, e3⟩ => by subst e1; subst e2; subst e3; exact h)
end
end Go.AB
namespace Go.AB
open Go Go.RowKit
variable {ρ : Option Nat}

section
variable {P : Program} {Q : Exit → St → Prop} {st : St} {o : Oper} {x : Operand}

/-- A form that is in the open. -/
inductive Is : C → C → Prop
 | v {x : Value} : Is (.v x) (.v x)
 | elem {cs : List C} : Is (.elem cs) (.elem cs)
 | list {rows : List (List C)} {tok : Tok} : Is (.list rows tok) (.list rows tok)
 | box {n ver off : Nat} : Is (.box n ver off) (.box n ver off)
 | agg {cs : List C} : Is (.agg cs) (.agg cs)
 | tup {cs : List C} : Is (.tup cs) (.tup cs)
 | arr {n ver : Nat} : Is (.arr n ver) (.arr n ver)
 | own {n ver len : Nat} : Is (.own n ver len) (.own n ver len)
 | fn {f : Fn} {cs : List C} : Is (.fn f cs) (.fn f cs)
 | map {n : Nat} : Is (.map n) (.map n)
 | any : Is .any .any
 | other {c : C} : Is c c
theorem Is.eq {c d : C} (h : Is c d) : c = d := by cases h <;> rfl
theorem ar {c : C} (ho : o.op = .move x) (hx : Is (evC st x) c) : NStep P o st c := hx.eq ▸ v6 (.inl ho)
theorem ax {c : C} (ho : o.op = .assign x) (hx : Is (evC st x) c) : NStep P o st c := hx.eq ▸ v6 (.inr ho)
theorem bt {c a b : Operand} {y : C} (ho : o.op = .pick c a b) (hc : evC st c = .v (.bool true)) (ha : Is (evC st a) y) : NStep P o st y := by
 have := pr (P := P) ho hc; simpa [ha.eq] using this
theorem bu {c a b : Operand} {y : C} (ho : o.op = .pick c a b) (hc : evC st c = .v (.bool false)) (hb : Is (evC st b) y) : NStep P o st y := by
 have := pr (P := P) ho hc; simpa [hb.eq] using this

theorem bj {t : TypeId} {x : Operand} {rows : List (List C)} {tok : Tok} {e : TypeId} [Elt P t e] {k : Nat} (ho : o.op = .call { callee := .builtin .len, args := #[x], argTypes := #[t] }) (hx : evC st x = .list rows tok) (hk : rows.length = k) : NStep P o st (.v (.int .i64 (k : Int))) := hk ▸ n_len (ty := 0) ho rfl hx
theorem b8 {t : TypeId} {x : Operand} {s : ByteArray} [StrT P t] (ho : o.op = .call { callee := .builtin .len, args := #[x], argTypes := #[t] }) (hx : evC st x = .v (.string s)) : NStep P o st (.v (.int .i64 s.size)) := ubx ho StrT.spec hx
theorem bg {t : TypeId} {x : Operand} {f off : Nat} {ft : TypeId} [Fld P t f off ft] {cs : List C} {d : C} {ds : List C} (ho : o.op = .fieldAddr t x f) (hx : evC st x = .elem cs) (hd : cs.drop off = d :: ds) : NStep P o st (.elem (d :: ds)) := by
 rw [← hd]; exact ub0 ho hx (by rw [hd]; simp)
theorem v8 {t : TypeId} {x i : Operand} {s : ByteArray} {ik : IntKind} {n : Int} {k : Nat} [StrT P t] {b : UInt8} (ho : o.op = .index t x i) (hx : evC st x = .v (.string s)) (hi : evC st i = .v (.int ik n)) (hn : n = (k : Int)) (hb : s.data.toList[k]? = some b) : NStep P o st (.v (.int .u8 (b.toNat : Int))) := by
 have hk : k < s.size := by
  have := (List.getElem?_eq_some_iff.1 hb).1
  simpa using this
 have e : s[k] = b := by
  rw [Array.getElem?_toList] at hb
  have := (Array.getElem?_eq_some_iff.1 hb).2
  exact this
 rw [← e]; exact uby ho StrT.spec hx hi hn hk
theorem ah {D : Nat → Prop} {t : TypeId} {x : Operand} {n : Nat} {cs : List C} [Ty P t true n] (ho : o.op = .load t x) (hx : evC st x = .elem cs) (hn : cs.length = n) : SStep P D o st (.agg cs) := by
 have := io (P := P) (D := D) ho hx (Nat.le_of_eq hn.symm)
 rwa [List.take_of_length_le (Nat.le_of_eq hn)] at this

/-- The first slots alone are kept. -/
theorem cg {c : Code} (k : Nat) (h : AW ρ P c Q { st with l := ks st.l st.r 0 k, r := [] }) : AW ρ P c Q st := yo (fun _ _ _ hs => hs.wipe k) h
/-- One statement, then what follows from one state. -/
theorem aj {x y : Code} (h : ∀ K : St → Prop, (∀ st', AW ρ P y Q st' → K st') → AW ρ P x (jz K Q) st) : AW ρ P (.seq x y) Q st := uex (h _ fun _ h => h)
/-- What a frame gives back, one slot. -/
theorem uar {fn : Func} {i : Nat} {r : C} (hf : fn.results = #[.tmp i]) (hr : st.at i = r) : l9 P fn st r := by
 intro E w a hs
 refine ⟨_, by simp [results, hf], hr ▸ (show R E w (st.at i) (a.tmps.getD i undef) from hs.at i)⟩
theorem uaq {fn : Func} {i j : Nat} {r1 r2 : C} (hf : fn.results = #[.tmp i, .tmp j]) (h1 : st.at i = r1) (h2 : st.at j = r2) : l9 P fn st (.tup [r1, r2]) := by
 intro E w a hs
 refine ⟨.tuple [a.tmps.getD i undef, a.tmps.getD j undef].toArray, by simp [results, hf], Rs.tup (Rs.cons (h1 ▸ (show R E w (st.at i) (a.tmps.getD i undef) from hs.at i)) (Rs.cons (h2 ▸ (show R E w (st.at j) (a.tmps.getD j undef) from hs.at j)) Rs.nil))⟩
end

section
variable {P : Program} {st : St}
theorem bo {fn : Func} {i : Nat} {r r' : C} {G : Nat → Option GObj} {nx : Nat} (hf : fn.results = #[.tmp i]) (hr : Is (st.at i) r') (hn : nx ≤ st.nx) (hG : ∀ n o, G n = some o → st.G n = some o) (e : r' = r) : l5 P fn r G nx .ret st := by
 subst e; exact ⟨uar hf hr.eq, hn, hG⟩
theorem j4 {fn : Func} {i j : Nat} {r1 r2 r1' r2' : C} {G : Nat → Option GObj} {nx : Nat} (hf : fn.results = #[.tmp i, .tmp j]) (h1 : Is (st.at i) r1') (h2 : Is (st.at j) r2') (hn : nx ≤ st.nx) (hG : ∀ n o, G n = some o → st.G n = some o) (e1 : r1' = r1) (e2 : r2' = r2) : l5 P fn (.tup [r1, r2]) G nx .ret st := by
 subst e1; subst e2; exact ⟨uaq hf h1.eq h2.eq, hn, hG⟩
end
theorem vb {a b : Bool} (h : a = b) : C.v (.bool a) = C.v (.bool b) := by rw [h]
theorem vi {k : IntKind} {a b : Int} (h : a = b) : C.v (.int k a) = C.v (.int k b) := by rw [h]
theorem vs {a b : ByteArray} (h : a = b) : C.v (.string a) = C.v (.string b) := by rw [h]

/-! ### Cuts and loops by what is written over -/
theorem ubv (a b : Nat) : Nat.beq a b = (a == b) := by rw [Bool.eq_iff_iff, Nat.beq_eq, beq_iff_eq]

def l4 (l : List C) (r : List (Nat × C)) : List (Nat × C) → Prop
 | [] => True
 | p :: u => (p.2 = .any ∨ cq l r p.1 = p.2) ∧ l4 l r u
def p9 (u : List (Nat × C)) (n : Nat) : List (Nat × C) → Bool
 | [] => true
 | p :: r => (u.any (fun q => Nat.beq q.1 p.1) || Nat.ble n p.1) && p9 u n r
theorem xa {l : List C} {r : List (Nat × C)} {i : Nat} (h : ∀ p ∈ r, p.1 ≠ i) : cq l r i = l.getD i .any := by
 induction r with
 | nil => rfl
 | cons p r ih =>
  obtain ⟨d, c⟩ := p
  have h1 : Nat.beq d i = false := by
   cases hb : Nat.beq d i
   ·rfl
   ·exact (h (d, c) (by simp) (Nat.eq_of_beq_eq_true hb)).elim
  simp only [cq, h1, cond_false]
  exact ih fun p hp => h p (by simp [hp])
theorem wy {u : List (Nat × C)} {n : Nat} : ∀ {r : List (Nat × C)}, p9 u n r = true → ∀ p ∈ r, (∃ q ∈ u, q.1 = p.1) ∨ n ≤ p.1
 | [], _, p, hp => by cases hp
 | p' :: r, h, p, hp => by
  simp only [p9, Bool.and_eq_true, Bool.or_eq_true] at h
  rcases List.mem_cons.1 hp with rfl | hp
  ·rcases h.1 with h1 | h1
   ·obtain ⟨q, hq, he⟩ := List.any_eq_true.1 h1
    exact .inl ⟨q, hq, Nat.eq_of_beq_eq_true he⟩
   ·exact .inr (Nat.le_of_ble_eq_true h1)
  ·exact wy h.2 p hp
theorem udl {l : List C} {r u : List (Nat × C)} (h : l4 l r u) (i : Nat) : (∃ p ∈ u, p.1 = i) → cq l u i = .any ∨ cq l u i = cq l r i := by
 induction u with
 | nil => rintro ⟨p, hp, _⟩; cases hp
 | cons p u ih =>
  obtain ⟨d, c⟩ := p
  rintro ⟨q, hq, he⟩
  simp only [cq]
  cases hb : Nat.beq d i
  ·simp only [cond_false]
   rcases List.mem_cons.1 hq with rfl | hq
   ·have e : d = i := he
    subst e
    rw [Nat.beq_refl] at hb
    cases hb
   ·exact ih h.2 ⟨q, hq, he⟩
  ·have hd := Nat.eq_of_beq_eq_true hb
   subst hd
   simp only [cond_true]
   rcases h.1 with h1 | h1
   ·exact .inl h1
   ·exact .inr h1.symm
theorem le_r {n : Nat} {l : List C} {r u : List (Nat × C)} {G : Nat → Option GObj} {nx df : Nat} (h1 : l4 l r u) (h2 : p9 u l.length r = true) : Le ⟨n, l, r, G, nx, df⟩ ⟨n, l, u, G, nx, df⟩ := by
 intro E w a hs
 refine ⟨hs.d, hs.sz, fun i v hv => ?_, hs.g⟩
 have h0 := hs.t i v hv
 by_cases hu : ∃ p ∈ u, p.1 = i
 ·rcases udl h1 i hu with h3 | h3
  ·show R E w (cq l u i) v; rw [h3]; exact .any
  ·show R E w (cq l u i) v; rw [h3]; exact h0
 ·have h3 : cq l u i = l.getD i .any := xa fun p hp he => hu ⟨p, hp, he⟩
  by_cases hr : ∃ p ∈ r, p.1 = i
  ·obtain ⟨p, hp, he⟩ := hr
   rcases wy h2 p hp with ⟨q, hq, he2⟩ | hle
   ·exact (hu ⟨q, hq, by omega⟩).elim
   ·show R E w (cq l u i) v
    rw [h3, List.getD_eq_getElem?_getD, List.getElem?_eq_none (by omega)]
    exact .any
  ·have h4 : cq l r i = l.getD i .any := xa fun p hp he => hr ⟨p, hp, he⟩
   show R E w (cq l u i) v
   rw [h3, ← h4]; exact h0
/-- Objects may be forgotten. -/
theorem le_G {st : St} {G : Nat → Option GObj} (h : ∀ n o, G n = some o → st.G n = some o) : Le st { st with G := G } :=
 fun _ _ _ hs => ⟨hs.d, hs.sz, hs.t, hs.g.weak h⟩
theorem Le.trans {a b c : St} (h : Le a b) (k : Le b c) : Le a c := fun E w x hs => k E w x (h E w x hs)

section
variable {P : Program} {Q : Exit → St → Prop} {st : St} {X : Type}
theorem et {ops : Array Oper} {K : St → Prop} {rest : List Oper} {d : Option Tmp} {b : Bool} (ht : b = true → el ρ P ops K rest (st.put d (.v (.bool true)))) (hf : b = false → el ρ P ops K rest (st.put d (.v (.bool false)))) : el ρ P ops K rest (st.put d (.v (.bool b))) := by
 cases b
 ·exact hf rfl
 ·exact ht rfl
theorem k7 {ops : Array Oper} {K : St → Prop} {D : List Nat} {late Ef N : Nat → Bool} {π : List (Nat × Option Nat)} {d : Option Tmp} {b : Bool} (ht : b = true → iw P ops K D late Ef N π (st.put d (.v (.bool true)))) (hf : b = false → iw P ops K D late Ef N π (st.put d (.v (.bool false)))) : iw P ops K D late Ef N π (st.put d (.v (.bool b))) := by
 cases b
 ·exact hf rfl
 ·exact ht rfl
theorem gn {p : Prop} [Decidable p] (h : (!decide p) = true) : ¬ p := by simpa using h
theorem ff {p : Prop} [Decidable p] (h : (!decide p) = false) : p := by simpa using h
theorem ubq {p : Prop} [Decidable p] (h : ¬ p) : (!decide p) = true := by simp [h]
theorem ubr {p : Prop} [Decidable p] (h : p) : (!decide p) = false := by simp [h]
end

/-! ### Data as cells -/
class Enc (α : Type) where
 cells : α → List C
 n : Nat
 len : ∀ x, (cells x).length = n
 low : ∀ m x, ∀ c ∈ cells x, C.low m c
 one : ∀ x, ∀ c ∈ cells x, c.one = true
open Enc (cells)

instance : Enc Int := ⟨fun x => [.v (.int .i64 x)], 1, fun _ => rfl, fun m x c h => by simp at h; subst h; exact .v, fun x c h => by simp at h; subst h; rfl⟩
instance : Enc ByteArray := ⟨fun x => [.v (.string x)], 1, fun _ => rfl, fun m x c h => by simp at h; subst h; exact .v, fun x c h => by simp at h; subst h; rfl⟩
/-- a byte, a kind -/
structure U8 where
 v : Int
 deriving DecidableEq
instance : Enc U8 := ⟨fun x => [.v (.int .u8 x.v)], 1, fun _ => rfl, fun m x c h => by simp at h; subst h; exact .v, fun x c h => by simp at h; subst h; rfl⟩

/-- Lengths and numbers fit. -/
inductive C.fit : C → Prop
 | v {x : Value} : okV x = true → C.fit (.v x)
 | list {rows : List (List C)} {tok : Tok} : rows.length ≤ 9223372036854775807 → (∀ r ∈ rows, ∀ c ∈ r, C.fit c) → C.fit (.list rows tok)
 | elem {cs : List C} : (∀ c ∈ cs, C.fit c) → C.fit (.elem cs)
 | box {n ver off : Nat} : C.fit (.box n ver off)
 | arr {n ver : Nat} : C.fit (.arr n ver)
 | own {n ver len : Nat} : C.fit (.own n ver len)
 | fn {f : Fn} {caps : List C} : (∀ c ∈ caps, C.fit c) → C.fit (.fn f caps)
 | map {n : Nat} : C.fit (.map n)
 | agg {cs : List C} : (∀ c ∈ cs, C.fit c) → C.fit (.agg cs)
 | tup {cs : List C} : (∀ c ∈ cs, C.fit c) → C.fit (.tup cs)
 | any : C.fit .any
theorem R.fit {E : Env} {w : World} {c : C} {v : Value} (h : R E w c v) : c.fit := by
 induction h with
 | v h => exact .v h
 | list h1 h2 _ _ _ _ _ _ _ _ ih =>
  refine .list (by unfold maxLen at h2; omega) fun r hr c hc => ?_
  obtain ⟨j, hj⟩ := List.getElem?_of_mem (List.mem_flatten.2 ⟨r, hr, hc⟩)
  exact ih j c hj
 | elem _ _ _ _ ih => exact .elem fun c hc => let ⟨j, hj⟩ := List.getElem?_of_mem hc; ih j c hj
 | box _ _ => exact .box
 | arr _ _ _ _ => exact .arr
 | own _ _ _ _ => exact .own
 | fn _ _ _ ih => exact .fn fun c hc => let ⟨j, hj⟩ := List.getElem?_of_mem hc; ih j c hj
 | map _ _ => exact .map
 | agg _ _ _ _ ih => exact .agg fun c hc => let ⟨j, hj⟩ := List.getElem?_of_mem hc; ih j c hj
 | tup _ _ _ ih => exact .tup fun c hc => let ⟨j, hj⟩ := List.getElem?_of_mem hc; ih j c hj
 | any => exact .any
theorem fj {P : Program} {Q : Exit → St → Prop} {st : St} {c : Code} (i : Nat) (h : (st.at i).fit → AW ρ P c Q st) : AW ρ P c Q st :=
 fun E w a hs => h (hs.at i).fit E w a hs
@[simp] theorem fit_v {x : Value} : (C.v x).fit ↔ okV x = true := ⟨fun h => by cases h; assumption, fun h => .v h⟩
@[simp] theorem fit_list {rows : List (List C)} {tok : Tok} : (C.list rows tok).fit ↔ rows.length ≤ 9223372036854775807 ∧ ∀ r ∈ rows, ∀ c ∈ r, C.fit c := ⟨fun h => by cases h; constructor <;> assumption, fun h => .list h.1 h.2⟩
@[simp] theorem fit_agg {cs : List C} : (C.agg cs).fit ↔ ∀ c ∈ cs, C.fit c := ⟨fun h => by cases h; assumption, fun h => .agg h⟩

/-- A list as a slice that is only read. -/
def lst {α : Type} [Enc α] (xs : List α) : C := .list (xs.map cells) .none
theorem ce {α : Type} [Enc α] (m : Nat) (xs : List α) : (lst xs).low m :=
 .list (fun r hr c hc => by obtain ⟨x, _, rfl⟩ := List.mem_map.1 hr; exact Enc.low m x c hc) (by simp)
instance {α : Type} [Enc α] : Enc (List α) := ⟨fun xs => [lst xs], 1, fun _ => rfl, fun m x c h => by simp at h; subst h; exact ce m x, fun x c h => by simp at h; subst h; rfl⟩
@[simp] theorem fit_lst {α : Type} [Enc α] {xs : List α} : (lst xs).fit ↔ xs.length ≤ 9223372036854775807 ∧ ∀ x ∈ xs, ∀ c ∈ cells x, C.fit c := by
 simp [lst]
theorem bm {α β : Type} {f : α → β} {xs : List α} {k : Nat} {x : α} (h : xs[k]? = some x) : (xs.map f)[k]? = some (f x) := by rw [List.getElem?_map, h]; rfl
theorem cm {α : Type} {l : List α} {k : Nat} (h : k < l.length) : ∃ x, l[k]? = some x := ⟨_, List.getElem?_eq_getElem h⟩
end Go.AB
namespace Go.AB
open Go Go.RowKit
open Go.AB.Enc (cells)
variable {ρ : Option Nat}

/-! ### Dropping names -/
theorem Sim.dropTo {E : Env} {w : World} {st st' : St} {a : Act} (h : Sim E w st a) (hn : st'.n = st.n) (hdf : st'.df = st.df) (hnx : st'.nx ≤ st.nx)
  (hl : ∀ i, i < st.n → cq st'.l st'.r i = .any ∨ (cq st'.l st'.r i = cq st.l st.r i ∧ (cq st'.l st'.r i).low st'.nx)) (hG : ∀ n o, st'.G n = some o → st.G n = some o ∧ n < st'.nx ∧ o.low st'.nx) : Sim (E.drop st'.nx) w st' a := by
 refine ⟨hdf ▸ DefN.sub (E := E) (E' := E.drop st'.nx) rfl (fun n t ht => by
  simp only [Env.drop] at ht
  split at ht
  ·exact ht
  ·cases ht) h.d, hn ▸ h.sz, fun i v hv => ?_, (h.g.weak fun n o ho => (hG n o ho).1).drop fun n o ho => (hG n o ho).2⟩
 have hi : i < st.n := by rw [← h.sz]; exact (Array.getElem?_eq_some_iff.1 hv).1
 rcases hl i hi with h1 | ⟨h1, h2⟩
 ·rw [h1]; exact .any
 ·have := h.t i v hv
  rw [← h1] at this
  exact this.drop h2

/-- What a slot's value may name is among the names. -/
theorem Sim.low {E : Env} {w : World} {st : St} {a : Act} (h : Sim E w st a) (i : Nat) (hi : i < st.n) : (cq st.l st.r i).low st.nx := by
 have hlt : i < a.tmps.size := by rw [h.sz]; exact hi
 have := (h.t i _ (Array.getElem?_eq_getElem hlt)).low
 rw [h.g.nx] at this
 exact this
theorem Sim.lowG {E : Env} {w : World} {st : St} {a : Act} (h : Sim E w st a) : ∀ n o, st.G n = some o → n < st.nx ∧ o.low st.nx := by
 intro n o ho
 have hnx := h.g.nx
 have := h.g.obj n o ho
 have hlt : ∀ t, E.T n = some t → n < st.nx := fun t ht => by have := h.g.lt n t ht; omega
 cases o with
 | box => obtain ⟨b, us, tt, h1, _, _, h4, _⟩ := this; exact ⟨hlt _ h1, hnx ▸ h4.low⟩
 | arr => obtain ⟨b, us, h1, _, _, h4, _⟩ := this; exact ⟨hlt _ h1, hnx ▸ h4.low⟩
 | tip => obtain ⟨b, us, h1, _⟩ := this; exact ⟨hlt _ h1, trivial⟩
 | fact => exact ⟨hlt _ this.1, hnx ▸ this.2.low⟩
 | raw => obtain ⟨b, h1, _⟩ := this; exact ⟨hlt _ h1, trivial⟩
 | map wv ok f =>
  obtain ⟨r, es, cl, h1, _, h3, _⟩ := this
  refine ⟨hlt _ h1, fun x c hx => ?_⟩
  obtain ⟨e, he, rfl⟩ := h3.has x c hx
  obtain ⟨c', h4, h5⟩ := h3.val e he
  rw [hx] at h4; cases h4
  exact hnx ▸ h5.low

/-- What a list of writes may name. -/
def mi (m : Nat) : List (Nat × C) → Prop
 | [] => True
 | p :: u => p.2.low m ∧ mi m u
theorem sf {m : Nat} : ∀ {u : List (Nat × C)}, mi m u → ∀ p ∈ u, p.2.low m
 | [], _, p, hp => by cases hp
 | q :: u, h, p, hp => by
  rcases List.mem_cons.1 hp with rfl | hp
  ·exact h.1
  ·exact sf h.2 p hp
theorem oo (l : List C) (u : List (Nat × C)) (i : Nat) : (∃ p ∈ u, p.1 = i ∧ cq l u i = p.2) ∨ ((∀ p ∈ u, p.1 ≠ i) ∧ cq l u i = l.getD i .any) := by
 induction u with
 | nil => exact .inr ⟨fun p hp => (by cases hp), rfl⟩
 | cons p u ih =>
  obtain ⟨d, c⟩ := p
  simp only [cq]
  cases hb : Nat.beq d i
  ·have hne : d ≠ i := fun e => by subst e; rw [Nat.beq_refl] at hb; cases hb
   rcases ih with ⟨q, hq, h1, h2⟩ | ⟨h1, h2⟩
   ·exact .inl ⟨q, by simp [hq], h1, by simpa using h2⟩
   ·refine .inr ⟨fun p hp => ?_, by simpa using h2⟩
    rcases List.mem_cons.1 hp with rfl | hp
    ·exact hne
    ·exact h1 p hp
  ·exact .inl ⟨(d, c), by simp, Nat.eq_of_beq_eq_true hb, by simp⟩

/-- What is claimed of the first slots is so. -/
def tj (l : List C) (u : List (Nat × C)) (l' : List C) (r' : List (Nat × C)) : Nat → Nat → Prop
 | _, 0 => True
 | i, k + 1 => (cq l u i = .any ∨ cq l' r' i = cq l u i) ∧ tj l u l' r' (i + 1) k
def qb (n : Nat) : List (Nat × C) → Bool
 | [] => true
 | p :: u => Nat.blt p.1 n && qb n u
theorem qa {n : Nat} : ∀ {u : List (Nat × C)}, qb n u = true → ∀ p ∈ u, p.1 < n
 | [], _, p, hp => by cases hp
 | q :: u, h, p, hp => by
  simp only [qb, Bool.and_eq_true, Nat.blt_eq] at h
  rcases List.mem_cons.1 hp with rfl | hp
  ·exact h.1
  ·exact qa h.2 p hp
theorem qk {l l' : List C} {u r' : List (Nat × C)} : ∀ (k i : Nat), tj l u l' r' i k → ∀ j, i ≤ j → j < i + k → cq l u j = .any ∨ cq l' r' j = cq l u j
 | 0, i, _, j, h1, h2 => by omega
 | k + 1, i, h, j, h1, h2 => by
  by_cases e : j = i
  ·subst e; exact h.1
  ·exact qk k (i + 1) h.2 j (by omega) (by omega)

theorem qj {l : List C} {r : List (Nat × C)} : ∀ {u : List (Nat × C)}, l4 l r u → ∀ p ∈ u, p.2 = .any ∨ cq l r p.1 = p.2
 | q :: u, h, p, hp => by
  rcases List.mem_cons.1 hp with rfl | hp
  ·exact h.1
  ·exact qj h.2 p hp
/-- The end of a round, or of what stands ahead of a cut: what is claimed fits, and names from the start's on are dropped. -/
structure Back (st : St) (u : List (Nat × C)) (g : Nat → Option GObj) (st' : St) : Prop where
 n : st'.n = st.n ∧ st'.df = st.df
 fits : tj st.l u st'.l st'.r 0 st.l.length
 keys : qb st.l.length u = true ∨ l4 st'.l st'.r u
 nx : st.nx ≤ st'.nx
 G : ∀ n o, g n = some o → st'.G n = some o

theorem Back.sim {E0 E' : Env} {w0 w' : World} {a0 a' : Act} {st st' : St} {u : List (Nat × C)} {g : Nat → Option GObj} (h0 : Sim E0 w0 st a0) (hr : st.r = []) (hb : Back st u g st') (hu : mi st.nx u) (hg : ∀ n o, g n = some o → st.G n = some o ∨ (n < st.nx ∧ o.low st.nx))
  (hev : Ev E0 w0 E' w') (hs : Sim E' w' st' a') : Ev E0 w0 (E'.drop st.nx) w' ∧ Sim (E'.drop st.nx) w' { st with r := u, G := g } a' := by
 have h1 := h0.g.nx
 refine ⟨hev.drop (by omega), ?_⟩
 have hlow : ∀ i, i < st.n → (cq st.l u i).low st.nx := fun i hi => by
  rcases oo st.l u i with ⟨p, hp, _, he⟩ | ⟨_, he⟩
  ·rw [he]; exact sf hu p hp
  ·rw [he]
   have := h0.low i hi
   rw [hr] at this
   exact this
 have hcl : ∀ i, cq st.l u i = .any ∨ cq st.l u i = cq st'.l st'.r i := fun i => by
  by_cases hi : i < st.l.length
  ·rcases qk _ _ hb.fits i (Nat.zero_le _) (by omega) with h | h
   ·exact .inl h
   ·exact .inr h.symm
  ·rcases oo st.l u i with ⟨p, hp, he, he2⟩ | ⟨_, he⟩
   ·rcases hb.keys with hk | hk
    ·have := qa hk p hp; omega
    ·rcases qj hk p hp with h | h
     ·left; rw [he2, h]
     ·right; rw [he2, ← h, he]
   ·left; rw [he, List.getD_eq_getElem?_getD, List.getElem?_eq_none (by omega)]; rfl
 refine hs.dropTo (st' := { st with r := u, G := g }) hb.n.1.symm hb.n.2.symm hb.nx (fun i hi => ?_) fun n o ho => ⟨hb.G n o ho, ?_⟩
 ·rcases hcl i with h2 | h2
  ·exact .inl h2
  ·exact .inr ⟨h2, hlow i (hb.n.1 ▸ hi)⟩
 ·rcases hg n o ho with h2 | h2
  ·exact h0.lowG n o h2
  ·exact h2

section
variable {P : Program} {Q : Exit → St → Prop} {st : St} {X : Type}
/-- A loop whose rounds may make names, that are dropped at their ends. -/
theorem cz {c : Code} (I : X → Prop) (μ : X → Nat) (u : X → List (Nat × C)) (g : X → (Nat → Option GObj) → Nat → Option GObj) (x0 : X) (hr : st.r = []) (h0 : I x0) (e0 : l4 st.l [] (u x0)) (g0 : ∀ n o, g x0 st.G n = some o → st.G n = some o)
  (hu : ∀ x, I x → mi st.nx (u x)) (hg : ∀ x, I x → ∀ n o, g x st.G n = some o → st.G n = some o ∨ (n < st.nx ∧ o.low st.nx))
  (round : ∀ x, I x → AW ρ P c (jz (fun st' => ∃ x', μ x' < μ x ∧ I x' ∧ Back st (u x') (g x' st.G) st') Q) { st with r := u x, G := g x st.G }) : AW ρ P (.loop c) Q st := by
 intro E w a hs
 refine s4 (fun m a1 w1 => ∃ x E1, m = μ x ∧ I x ∧ Ev E w E1 w1 ∧ Sim E1 w1 { st with r := u x, G := g x st.G } a1) (μ x0) ⟨x0, E, rfl, h0, Ev.refl E w, ?_⟩ ?_
 ·have h1 : Sim E w { st with r := u x0 } a := le_r (n := st.n) (G := st.G) (nx := st.nx) (df := st.df) e0 rfl E w a (by rw [← hr]; exact hs)
  exact le_G (st := { st with r := u x0 }) g0 E w a h1
 ·rintro m a1 w1 ⟨x, E1, rfl, hI, hev, hs1⟩
  refine gd ?_ (round x hI E1 w1 a1 hs1)
  rintro e a' w' ⟨st', E', h1, h2, h3⟩
  cases e with
  | normal =>
   obtain ⟨x', h4, h5, h6⟩ := h3
   obtain ⟨h7, h8⟩ := Back.sim hs hr h6 (hu x' h5) (hg x' h5) (hev.trans h1) h2
   exact ⟨μ x', h4, x', _, rfl, h5, h7, h8⟩
  | _ => exact kp (hev.trans h1) ⟨st', E', Ev.refl _ _, h2, h3⟩

/-- A cut that drops names. -/
theorem ky {x y : Code} (I : X → Prop) (u : X → List (Nat × C)) (g : X → (Nat → Option GObj) → Nat → Option GObj) (hr : st.r = [])
  (hu : ∀ x, I x → mi st.nx (u x)) (hg : ∀ x, I x → ∀ n o, g x st.G n = some o → st.G n = some o ∨ (n < st.nx ∧ o.low st.nx))
  (h1 : AW ρ P x (jz (fun st' => ∃ x', I x' ∧ Back st (u x') (g x' st.G) st') Q) st) (h2 : ∀ x', I x' → AW ρ P y Q { st with r := u x', G := g x' st.G }) : AW ρ P (.seq x y) Q st := by
 intro E w a hs
 refine wpIn_seq (gd ?_ (h1 E w a hs))
 rintro e a' w' ⟨st', E', q1, q2, q3⟩
 cases e with
 | normal =>
  obtain ⟨x', h5, h6⟩ := q3
  obtain ⟨h7, h8⟩ := Back.sim hs hr h6 (hu x' h5) (hg x' h5) q1 q2
  exact gd (fun _ _ _ hq => kp h7 hq) (h2 x' h5 _ w' a' h8)
 | _ => exact ⟨st', E', q1, q2, q3⟩

/-- A variable that is written no more is laid for good. -/
theorem ue2 {c : Code} {i n wv : Nat} {cs : List C} (h0 : st.at i = .box n 0 0) (hG : st.G n = some (.box wv cs)) (hne : cs ≠ []) (h : AW ρ P c Q { st with r := (i, .elem cs) :: st.r, G := fun k => if k = n then none else st.G k }) : AW ρ P c Q st := by
 intro E w a hs
 obtain ⟨b, us, tt, hT, hh, hone, hr, hL⟩ := hs.g.obj n _ hG
 have hbn := hs.g.tb n _ _ _ b hT rfl
 have hlen := hr.1
 simp only [Array.length_toList] at hlen
 have hp := hs.at i
 rw [h0] at hp
 -- the block's cells are laid
 have hE : Ev E w { E with L := fun k => if k = b then us.size else E.L k } w := by
  refine ⟨Below.refl _ _, rfl, fun k => ?_, fun _ _ _ => rfl, Nat.le_refl _, fun n _ ver wv val h => ⟨ver, wv, val, h, Nat.le_refl _, fun _ => ⟨rfl, fun _ _ _ => rfl⟩⟩, fun n ver wv wv' val h h' _ => by rw [show ({ E with L := fun k => if k = b then us.size else E.L k } : Env).T = E.T from rfl, h] at h'; simp at h'; omega, ?_⟩
  ·show E.L k ≤ if k = b then us.size else E.L k
   split
   ·rename_i e; subst e; rw [hL]; exact Nat.zero_le _
   ·exact Nat.le_refl _
  ·refine ⟨rfl, fun k hk => ?_, fun _ _ h _ => h, fun _ o h => ⟨o, h, rfl⟩, fun _ t _ _ h k _ => ⟨t, h, k⟩, fun n t t' _ _ h1 h2 hv _ => by rw [show ({ E with L := fun k => if k = b then us.size else E.L k } : Env).T = E.T from rfl, h1] at h2; cases h2; omega⟩
   have hk' : E.L k < if k = b then us.size else E.L k := hk
   split at hk'
   ·rename_i e
    subst e
    exact ⟨us[0], by simp [World.cell?, hh, show 0 < us.size by omega]⟩
   ·omega
 have hg' : SimG { E with L := fun k => if k = b then us.size else E.L k } w (fun k => if k = n then none else st.G k) st.nx := by
  refine ⟨hs.g.nx, fun k o ho => ?_, hs.g.lt, hs.g.tb, hs.g.ap, fun k hk => ?_, hs.g.base⟩
  ·have hkn : k ≠ n := fun e => by subst e; simp at ho
   rw [if_neg hkn] at ho
   refine (hs.g.obj k o ho).keep hE rfl fun ver wv val b' h1 h2 => ⟨rfl, ?_⟩
   have hne : b' ≠ b := fun e => by subst e; exact hs.g.ap k n _ _ b' h1 hT hkn h2 rfl
   show (if b' = b then us.size else E.L b') = E.L b'
   rw [if_neg hne]
  ·show (if k = b then us.size else E.L k) = 0
   rw [if_neg (by omega)]
   exact hs.g.fresh k hk
 have hrE := hr.ev hE
 have hel : R { E with L := fun k => if k = b then us.size else E.L k } w (.elem cs) (.pointer (some ⟨b, 0, none⟩)) := by
  refine .elem (us := fun j => us.toList.getD j undef) hne hone (.inr ⟨b, 0, rfl, ?_, fun j hj => ?_⟩) hrE.us.1
  ·show 0 + cs.length ≤ if b = b then us.size else E.L b
   rw [if_pos rfl]; omega
  ·rw [Nat.zero_add]
   refine jw hh ?_
   rw [← Array.getElem?_toList]
   exact hrE.us.2 j hj
 have hv : a.tmps.getD i undef = .pointer (some ⟨b, 0, none⟩) := by
  generalize a.tmps.getD i undef = v at hp
  cases hp with
  | box h1 h2 =>
   have := (h2 _ _ _ hT).2 rfl
   simp only [blk, Option.some.injEq] at this
   rw [this]
 have hs2 := hs.evd hE hg'
 have hs3 : Sim { E with L := fun k => if k = b then us.size else E.L k } w { st with r := (i, .elem cs) :: st.r, G := fun k => if k = n then none else st.G k } a := by
  refine ⟨hs.d.ev hE, hs.sz, fun j v hj => ?_, hg'⟩
  simp only [cq]
  cases hb : Nat.beq i j
  ·exact hs2.t j v hj
  ·have hij := Nat.eq_of_beq_eq_true hb
   subst hij
   have : a.tmps.getD i undef = v := by
    rw [Array.getD_eq_getD_getElem?, hj]; rfl
   rw [← this, hv]
   exact hel
 exact gd (fun _ _ _ hq => kp hE hq) (h _ w a hs3)

/-! ### Results -/
/-- One result. -/
def pd (tmps : Array Value) : ResultVar → Sem Value
 | .tmp t => pure (tmps.getD t undef)
 | .cell x t => do loadVar t (← asAddr (tmps.getD x undef))
theorem um (fn : Func) (tmps : Array Value) : results fn tmps = (do
 let vs ← fn.results.mapM (pd tmps)
 pure (if h : vs.size = 1 then vs[0] else .tuple vs)) := by
 unfold results
 congr 1
def RV (P : Program) (st : St) (rv : ResultVar) (c : C) : Prop := ∀ E w (a : Act), Sim E w { st with df := 0 } a → ∃ v, (pd a.tmps rv).run P w = .ok v w ∧ R E w c v
theorem ed {i : Nat} {c : C} (h : Is (st.at i) c) : RV P st (.tmp i) c := fun E w a hs => ⟨_, rfl, h.eq ▸ (show R E w (st.at i) (a.tmps.getD i undef) from hs.at i)⟩
theorem kj {i n wv t sz : Nat} {ag : Bool} {cs : List C} {c : C} [Ty P t ag sz] (h : st.at i = .box n 0 0) (hG : st.G n = some (.box wv cs)) (hsz : cs.length = sz) (hne : cs ≠ []) (hc : c = bif ag then .agg cs else cs.headD .any) : RV P st (.cell i t) c := by
 intro E w a hs
 obtain ⟨b, us, tt, hT, hh, hone, hr, hL⟩ := hs.g.obj n _ hG
 have hp : R E w (st.at i) (a.tmps.getD i undef) := hs.at i
 rw [h] at hp
 generalize hv : a.tmps.getD i undef = v at hp
 cases hp with
 | @box _ _ _ b' hn hp =>
  have hb' : b' = b := by
   have := (hp _ _ _ hT).2 rfl
   simp only [blk, Option.some.injEq] at this
   exact this.symm
  subst hb'
  have hlen := hr.1
  simp only [Array.length_toList] at hlen
  cases ag with
  | true =>
   simp only [cond_true] at hc
   subst hc
   have hrun := nv (P := P) (t := t) (n := sz) (b := b') (off := 0) (us := us.toList) (w' := w) (by simp; omega) fun j v hj => by
    rw [Nat.zero_add]; exact jw hh (by rw [← Array.getElem?_toList]; exact hj)
   refine ⟨.agg us.toList.toArray, ?_, hr.agg hone⟩
   simpa [pd, hv, asAddr, Instr.loadAt, Instr.sureAddr] using hrun
  | false =>
   simp only [cond_false] at hc
   have h1 := Ty.row (P := P) (w := w) (t := t) (ag := false) (n := sz)
   cases cs with
   | nil => exact (hne rfl).elim
   | cons d ds =>
    simp only [List.headD_cons] at hc
    subst hc
    have hlt : 0 < us.toList.length := by rw [hr.1]; simp
    have hcell : w.cell? ⟨b', 0, none⟩ = some us.toList[0] := jw hh (by rw [← Array.getElem?_toList]; exact List.getElem?_eq_getElem hlt)
    refine ⟨us.toList[0], ?_, hr.2 0 _ _ rfl (List.getElem?_eq_getElem hlt)⟩
    simp [pd, hv, asAddr, loadVar, h1, load, Sem.run, hcell]
theorem uat {fn : Func} {r1 : ResultVar} {c1 : C} (hf : fn.results = #[r1]) (h1 : RV P st r1 c1) : l9 P fn st c1 := by
 intro E w a hs
 obtain ⟨v1, e1, q1⟩ := h1 E w a hs
 refine ⟨v1, ?_, q1⟩
 simp [um, hf, e1]
theorem uas {fn : Func} {r1 r2 : ResultVar} {c1 c2 : C} (hf : fn.results = #[r1, r2]) (h1 : RV P st r1 c1) (h2 : RV P st r2 c2) : l9 P fn st (.tup [c1, c2]) := by
 intro E w a hs
 obtain ⟨v1, e1, q1⟩ := h1 E w a hs
 obtain ⟨v2, e2, q2⟩ := h2 E w a hs
 refine ⟨.tuple [v1, v2].toArray, ?_, Rs.tup (Rs.cons q1 (Rs.cons q2 Rs.nil))⟩
 simp [um, hf, e1, e2]
end
end Go.AB
namespace Go.AB
open Go Go.RowKit
open Go.AB.Enc (cells)

/-! ### Zero values, structs -/
class ZeroC (P : Program) (t : TypeId) (zs : outParam (List C)) : Prop where
 chk : ∃ v, (P.info? t).bind (fun i => i.zero) = some v ∧ ir (jl v) = some zs

def ta (P : Program) (t : TypeId) (pl : List (Nat × Nat)) : Bool :=
 match P.underlying t with
 | some (.struct fs) => fs.toList.map (fun f => (f.offset, ((P.info? f.type).map fun i => i.size))) == pl.map fun p => (p.1, some p.2)
 | _ => false
class Bld (P : Program) (t : TypeId) (pl : outParam (List (Nat × Nat))) : Prop where
 chk : ta P t pl = true

def ot (pl : List (Nat × Nat)) (cs : List C) : List (Nat × C) → Option (List C)
 | [] => some cs
 | (i, c) :: r => match pl[i]?, ir c with
  | some (off, size), some ds => if ds.length = size ∧ off + size ≤ cs.length then ot pl (putAt cs off ds) r else none
  | _, _ => none

theorem udm (off : Nat) (l : List Value) (cs : Array Value) (h : off + l.length ≤ cs.size) : ((l.zipIdx 0).foldl (fun cs (x : Value × Nat) => cs.setIfInBounds (off + x.2) x.1) cs).toList = cs.toList.take off ++ l ++ cs.toList.drop (off + l.length) := by
 obtain ⟨h1, h2⟩ := Great.foldl_set off l 0 cs
 apply List.ext_getElem?
 intro k
 rw [Array.getElem?_toList, h2 k, List.append_assoc, List.getElem?_append]
 simp only [List.length_take, Array.length_toList, Nat.add_zero, Nat.min_eq_left (show off ≤ cs.size by omega)]
 by_cases hk : k < off
 ·rw [if_neg (by omega), if_pos hk, List.getElem?_take, if_pos hk, Array.getElem?_toList]
 ·rw [if_neg hk, List.getElem?_append]
  by_cases hk2 : k < off + l.length
  ·rw [if_pos ⟨by omega, hk2, by omega⟩, if_pos (by omega)]
  ·rw [if_neg (by omega), if_neg (by omega), List.getElem?_drop, Array.getElem?_toList]
   congr 1
   omega

theorem xm {E : Env} {w : World} {pl : List (Nat × Nat)} {place : Nat → Option (Nat × Nat)} (hpl : ∀ i p, pl[i]? = some p → place i = some p) : ∀ (ps : List (Nat × C)) (vs : List (Nat × Value)) (zs cs : List C) (us : Array Value),
  vs.length = ps.length → (∀ (j i : Nat) (c : C), ps[j]? = some (i, c) → ∃ v, vs[j]? = some (i, v) ∧ R E w c v) → Rs E w zs us.toList → (∀ c ∈ zs, c.one = true) → ot pl zs ps = some cs →
  ∃ us' : Array Value, Instr.fill place us vs = some us' ∧ Rs E w cs us'.toList ∧ ∀ c ∈ cs, c.one = true
 | [], vs, zs, cs, us, hl, _, hz, h1, hf => by
  have : vs = [] := List.eq_nil_of_length_eq_zero (by simpa using hl)
  subst this
  simp only [ot, Option.some.injEq] at hf
  subst hf
  exact ⟨us, rfl, hz, h1⟩
 | (i, c) :: ps, vs, zs, cs, us, hl, hv, hz, h1, hf => by
  obtain ⟨v, hv0, hr⟩ := hv 0 i c rfl
  cases vs with
  | nil => simp at hl
  | cons v0 vs =>
   simp only [List.getElem?_cons_zero, Option.some.injEq] at hv0
   subst hv0
   simp only [ot] at hf
   split at hf
   ·rename_i off size ds e1 e2
    split at hf
    ·rename_i hc
     obtain ⟨q1, q2⟩ := hr.cells e2
     have hzl := hz.1
     have hql := q1.1
     simp only [Array.length_toList] at hzl hql
     obtain ⟨g1, _⟩ := Great.foldl_set off v.cells.toList 0 us
     have hsp := udm off v.cells.toList us (by simp; omega)
     obtain ⟨us', r1, r2, r3⟩ := xm hpl ps vs (putAt zs off ds) cs ((v.cells.toList.zipIdx 0).foldl (fun cs (x : Value × Nat) => cs.setIfInBounds (off + x.2) x.1) us) (by simpa using hl) (fun j i c hj => by simpa using hv (j + 1) i c (by simpa using hj)) (by
      rw [hsp]
      have := hz.putAt q1 (off := off) (by omega)
      simpa using this) (by
      rw [n2 zs off ds (by omega)]
      intro c hc
      rcases List.mem_append.1 hc with hc | hc
      ·rcases List.mem_append.1 hc with hc | hc
       ·exact h1 c (List.mem_of_mem_take hc)
       ·exact q2 c hc
      ·exact h1 c (List.mem_of_mem_drop hc)) hf
     refine ⟨us', ?_, r2, r3⟩
     unfold Instr.fill
     simp only [hpl i _ e1]
     rw [if_neg (by simp; omega)]
     rw [← r1]
     congr 1
     rw [← Array.foldl_toList, Array.toList_zipIdx]
    ·cases hf
   ·cases hf

section
variable {P : Program} {o : Oper} {st : St} {K : St → Prop}

theorem ZeroC.run {t : TypeId} {zs : List C} [h : ZeroC P t zs] (E : Env) (w : World) : ∃ v, (∀ w', (zeroValue t).run P w' = .ok v w') ∧ Rs E w zs v.cells.toList ∧ ∀ c ∈ zs, c.one = true := by
 obtain ⟨v, h1, h2⟩ := h.chk
 obtain ⟨h3, h4⟩ := (R.const E w v).cells h2
 refine ⟨v, fun w' => ?_, h3, h4⟩
 cases hi : P.info? t with
 | none => rw [hi] at h1; cases h1
 | some i =>
  rw [hi] at h1
  have hz : i.zero = some v := h1
  simp [zeroValue, typeInfo, hi, hz]

theorem jo {t : TypeId} {zs cs : List C} {pl : List (Nat × Nat)} [ZeroC P t zs] [Bld P t pl] {parts : List (Nat × Operand)} (ho : o.op = .build t parts.toArray) (hf : ot pl zs (parts.map fun p => (p.1, evC st p.2)) = some cs) : NStep P o st (.agg cs) := fun E w a hs => by
 obtain ⟨z, hz, q1, q2⟩ := ZeroC.run (P := P) (t := t) E w
 have hb := (Bld.chk : ta P t pl = true)
 unfold ta at hb
 split at hb
 ·rename_i fs hfs
  have hb := eq_of_beq hb
  have hpl : ∀ (i : Nat) (p : Nat × Nat), pl[i]? = some p → ∃ f : Field, fs[i]? = some f ∧ f.offset = p.1 ∧ (P.info? f.type).map (fun i => i.size) = some p.2 := fun i p hp => by
   have h1 : (pl.map fun p => (p.1, some p.2))[i]? = some (p.1, some p.2) := by rw [List.getElem?_map, hp]; rfl
   rw [← hb, List.getElem?_map, Array.getElem?_toList] at h1
   cases hf : fs[i]? with
   | none => rw [hf] at h1; cases h1
   | some f =>
    rw [hf] at h1
    simp only [Option.map_some, Option.some.injEq, Prod.mk.injEq] at h1
    exact ⟨f, rfl, h1.1, h1.2⟩
  have hsz : ∀ f ∈ fs, ∃ k, (P.info? f.type).map (fun i => i.size) = some k := fun f hf => by
   obtain ⟨i, hi⟩ := List.getElem?_of_mem (Array.mem_toList_iff.2 hf)
   have h1 : (fs.toList.map (fun f => (f.offset, ((P.info? f.type).map fun i => i.size))))[i]? = some (f.offset, (P.info? f.type).map fun i => i.size) := by rw [List.getElem?_map, hi]; rfl
   rw [hb, List.getElem?_map] at h1
   cases hp : pl[i]? with
   | none => rw [hp] at h1; cases h1
   | some p =>
    rw [hp] at h1
    simp only [Option.map_some, Option.some.injEq, Prod.mk.injEq] at h1
    exact ⟨p.2, h1.2.symm⟩
  -- the places
  have hmap : ∀ (l : List Field) (acc : Array (Nat × Nat)), (∀ f ∈ l, ∃ k, (P.info? f.type).map (fun i => i.size) = some k) → ∀ w', (l.foldlM (fun (bs : Array (Nat × Nat)) f => do pure (bs.push (f.offset, ← sizeOf f.type))) acc : Sem (Array (Nat × Nat))).run P w' = .ok (acc ++ (l.map fun f => (f.offset, P.cellsOf f.type)).toArray) w' := by
   intro l
   induction l with
   | nil => intro acc _ w'; simp
   | cons f l ih =>
    intro acc hl w'
    obtain ⟨k, hk⟩ := hl f (by simp)
    cases hi : P.info? f.type with
    | none => rw [hi] at hk; cases hk
    | some i =>
     have h1 : (sizeOf f.type).run P w' = .ok (P.cellsOf f.type) w' := by simp [sizeOf, typeInfo, hi, Program.cellsOf]
     have := ih (acc.push (f.offset, P.cellsOf f.type)) (fun f hf => hl f (by simp [hf])) w'
     rw [show acc.push (f.offset, P.cellsOf f.type) ++ (l.map fun f => (f.offset, P.cellsOf f.type)).toArray = acc ++ ((f :: l).map fun f => (f.offset, P.cellsOf f.type)).toArray by simp] at this
     rw [List.foldlM_cons]
     simpa [h1] using this
  obtain ⟨us', r1, r2, r3⟩ := xm (E := E) (w := w) (pl := pl) (place := fun x => Option.map (fun f => (f.offset, P.cellsOf f.type)) fs[x]?) (fun i p hp => by
   obtain ⟨f, h1, h2, h3⟩ := hpl i p hp
   simp [h1, h2, Program.cellsOf, h3]) (parts.map fun p => (p.1, evC st p.2)) (parts.map fun p => (p.1, a.eval p.2)) zs cs z.cells (by simp) (fun j i c hj => by
    rw [List.getElem?_map] at hj ⊢
    cases hp : parts[j]? with
    | none => rw [hp] at hj; cases hj
    | some p =>
     rw [hp] at hj
     simp only [Option.map_some, Option.some.injEq, Prod.mk.injEq] at hj
     obtain ⟨rfl, rfl⟩ := hj
     exact ⟨a.eval p.2, rfl, hs.ev p.2⟩) q1 q2 hf
  refine ⟨.agg us', by have := r2.agg r3; simpa using this, fun w' => ?_⟩
  have hm := hmap fs.toList #[] (fun f hf => hsz f (Array.mem_toList_iff.1 hf)) w'
  have hm' : (fs.mapM (fun f => do pure (f.offset, ← sizeOf f.type)) : Sem (Array (Nat × Nat))).run P w' = .ok (fs.toList.map fun f => (f.offset, P.cellsOf f.type)).toArray w' := by
   rw [Array.mapM_eq_foldlM, ← Array.foldlM_toList]
   simpa using hm
  simp only [execOp, ho, Instr.build, Sem.run_bind, hz w', run_underlying hfs, Result.andThen_ok, hm', List.map_toArray]
  simp [r1]
 ·cases hb
end
end Go.AB
namespace Go.AB
open Go Go.RowKit
open Go.AB.Enc (cells)

section
variable {P : Program} (w : World)
theorem nw (t ty e : TypeId) (i : TypeInfo) (ht : P.underlying t = some (.slice e)) (hi : P.info? e = some i) (a ao : Option Addr) (n cap c : Nat) (hn : n ≤ cap) :
  (Builtin.append_ #[t, t] ty #[.slice a n cap, .slice ao 0 c]).run P w = .ok (.slice a n cap) w := by
 cases a <;> cases ao <;> simp [Builtin.append_, run_underlying ht, sizeOf, typeInfo, hi, Builtin.lenOf, Builtin.firstCells, hn, loadCells, loadCellsFrom, storeCells]

/-- append: what is owned behind it, what was written, and where the row lies. -/
theorem ui (base : Nat) (t ty e : TypeId) (i : TypeInfo) (z : Value) (ht : P.underlying t = some (.slice e)) (hi : P.info? e = some i) (hz : i.zero = some z) (hzs : z.cells.size = i.size)
  (v : Value) (n : Nat) (xs : List Value) (hown : w.ownsRow base e i.size v n xs)
  (ao : Option Addr) (m c : Nat) (news : List Value) (hl : news.length = m * i.size) (hnews : m = 0 ∨ ∃ a, ao = some a ∧ ∀ j u, news[j]? = some u → w.cell? (a.add j) = some u) (h1 : ∀ u ∈ news, u.oneCell' = true)
  (h63 : n + m ≤ maxLen) (hbytes : (n + m) * i.bytes ≤ 140737488355328) (hbase : base ≤ w.heap.size) :
  ∃ v' w', (Builtin.append_ #[t, t] ty #[v, .slice ao m c]).run P w = .ok v' w' ∧ w'.ownsRow base e i.size v' (n + m) (xs ++ news) ∧
   ((blk v' = blk v ∧ w.grownBy w' (blk v)) ∨ (blk v' = some w.heap.size ∧ w.grownBy w' none)) ∧ (m ≠ 0 → ∃ g cap, v' = .slice (some ⟨g, 0, none⟩) (n + m) cap) ∧ (m = 0 → v' = v) := by
 by_cases hm : m = 0
 ·subst hm
  have hn : news = [] := List.eq_nil_of_length_eq_zero (by simpa using hl)
  subst hn
  refine ⟨v, w, ?_, by simpa using hown, .inl ⟨rfl, ⟨rfl, rfl, rfl, Nat.le_refl _, fun _ _ _ => rfl⟩⟩, fun h => (h rfl).elim, fun _ => rfl⟩
  rcases hown.2 with ⟨rfl, rfl⟩ | ⟨g, cap, cur, rfl, _, _, hnc, _⟩
  ·exact nw w t ty e i ht hi _ _ _ _ _ (Nat.le_refl _)
  ·exact nw w t ty e i ht hi _ _ _ _ _ hnc
 ·obtain ⟨a, rfl, hcells⟩ := hnews.resolve_left hm
  have hsmall : n + m ≤ 9223372036854775807 := by simp only [maxLen] at h63; omega
  have hlen : (xs ++ news).length = (n + m) * i.size := by rw [List.length_append, hown.1, hl, Nat.add_mul]
  have grown : ∀ (old : Nat),
    (w.drew.alloc (.cells (xs.toArray ++ news.toArray ++ Builtin.zeroCells z.cells (grownCap w (n + m) old e - (n + m))) e)).ownsRow base e i.size
     (.slice (some ⟨w.heap.size, 0, none⟩) (n + m) (grownCap w (n + m) old e)) (n + m) (xs ++ news) ∧
    w.grownBy (w.drew.alloc (.cells (xs.toArray ++ news.toArray ++ Builtin.zeroCells z.cells (grownCap w (n + m) old e - (n + m))) e)) none := by
   intro old
   have hge := grownCap_ge w (n + m) old e
   have hcm : grownCap w (n + m) old e ≤ maxLen := grownCap_le_maxLen w (n + m) old e h63
   refine ⟨⟨hlen, .inr ⟨w.heap.size, _, _, rfl, hbase, heap_alloc_new w.drew _, hge, hcm, ?_, ?_⟩⟩, ⟨rfl, rfl, rfl, by simp, fun k hk _ => Below.heap_alloc w.drew _ k hk⟩⟩
   ·simp only [Array.size_append, List.size_toArray, size_zeroCells, hzs, hown.1, hl, ← Nat.add_mul]
    congr 1
    omega
   ·simp only [Array.toList_append, List.append_assoc]
    rw [← List.append_assoc, ← hlen]
    exact List.take_left
  rcases hown.2 with ⟨rfl, rfl⟩ | ⟨g, cap, cur, rfl, hbg, hg, hnc, hcm, hcs, htake⟩
  ·have hx : xs = [] := List.eq_nil_of_length_eq_zero (by simpa using hown.1)
   subst hx
   have hr := run_append_nil (P := P) w t ty e i z ht hi hz a m c news hl hcells (by omega) (by omega) (by have hb := hbytes; simp only [Nat.zero_add] at hb; omega)
   have hgr := grown 0
   simp only [Nat.zero_add, List.nil_append, Array.empty_append] at hgr ⊢
   exact ⟨_, _, hr, hgr.1, .inr ⟨rfl, hgr.2⟩, fun _ => ⟨_, _, rfl⟩, fun h => (hm h).elim⟩
  ·by_cases hroom : n + m ≤ cap
   ·have hfit : n * i.size + news.length ≤ cur.size := by rw [hl, hcs, ← Nat.add_mul]; exact Nat.mul_le_mul_right _ hroom
    have hr := run_append_room (P := P) w t ty e i ht hi g n cap cur hg a m c news hl hcells h1 hroom hfit
    refine ⟨_, _, hr, ⟨hlen, .inr ⟨g, cap, _, rfl, hbg, setRow_heap w g cur _ e _ hg, hroom, hcm, ?_, ?_⟩⟩, .inl ⟨rfl, ⟨rfl, rfl, rfl, by simp, fun k _ hk => setRow_other w g k _ (fun e => hk (by simp [blk, e]))⟩⟩, fun _ => ⟨_, _, rfl⟩, fun h => (hm h).elim⟩
    ·simp only [List.size_toArray, List.length_append, List.length_take, List.length_drop, Array.length_toList]
     omega
    ·rw [htake, ← hlen]
     exact List.take_left
   ·have holds : ∀ j u, xs[j]? = some u → w.cell? ((⟨g, 0, none⟩ : Addr).add j) = some u := hown.cells (g := g) rfl
    have hr := run_append_grow (P := P) w t ty e i z ht hi hz ⟨g, 0, none⟩ n cap xs hown.1 holds a m c news hl hcells (by omega) (by omega) (growslice_fits (by omega) hbytes)
    have hgr := grown cap
    exact ⟨_, _, hr, hgr.1, .inr ⟨rfl, hgr.2⟩, fun _ => ⟨_, _, rfl⟩, fun h => (hm h).elim⟩
end

/-- What a slice that is only read holds, as values. -/
theorem R.list_inv {E : Env} {w : World} {rows : List (List C)} {tok : Tok} {v : Value} (h : R E w (.list rows tok) v) : ∃ (a : Option Addr) (cap sz : Nat) (us : List Value), v = .slice a rows.length cap ∧ rows.length ≤ cap ∧ cap ≤ maxLen ∧ 1 ≤ sz ∧ (∀ r ∈ rows, r.length = sz) ∧ (∀ r ∈ rows, ∀ c ∈ r, c.one = true) ∧
  Rs E w rows.flatten us ∧ (rows = [] ∨ ∃ b off, a = some ⟨b, off, none⟩ ∧ off + us.length ≤ E.L b ∧ ∀ j u, us[j]? = some u → w.cell? ⟨b, off + j, none⟩ = some u) ∧ (tok = .nil → a = none ∧ cap = 0) ∧ (tok = .zero → cap = rows.length) ∧
  (∀ n, tok = .tip n → n < E.nx ∧ ∀ ver wv val, E.T n = some (ver, wv, val) → rows.length ≤ ver ∧ (rows.length = ver → val = .slice a rows.length cap)) := by
 cases h with
 | @list _ _ a cap sz us h1 h2 h3 h4 h5 h6 h7 z1 z2 h8 =>
  have hl := i0 h4
  refine ⟨a, cap, sz, (List.range rows.flatten.length).map us, rfl, h1, h2, h3, h4, h5, ⟨by simp, fun j c v hc hv => ?_⟩, ?_, z1, z2, h8⟩
  ·have hlt := (List.getElem?_eq_some_iff.1 hc).1
   rw [List.getElem?_map, List.getElem?_range hlt] at hv
   simp only [Option.map_some, Option.some.injEq] at hv
   exact hv ▸ h7 j c hc
  ·rcases h6 with h6 | ⟨b, off, e, h6, h9⟩
   ·rw [hl] at h6
    rcases Nat.mul_eq_zero.1 h6 with h6 | h6
    ·exact .inl (List.eq_nil_of_length_eq_zero h6)
    ·omega
   ·refine .inr ⟨b, off, e, by simpa using h6, fun j u hu => ?_⟩
    have hlt : j < rows.flatten.length := by simpa using (List.getElem?_eq_some_iff.1 hu).1
    rw [List.getElem?_map, List.getElem?_range hlt] at hu
    simp only [Option.map_some, Option.some.injEq] at hu
    exact hu ▸ h9 j hlt

/-- A list out of its values. -/
theorem R.mk_list {E : Env} {w : World} {rows : List (List C)} {a : Option Addr} {cap sz : Nat} {us : List Value} (h1 : rows.length ≤ cap) (h2 : cap ≤ maxLen) (h3 : 1 ≤ sz) (h4 : ∀ r ∈ rows, r.length = sz) (h5 : ∀ r ∈ rows, ∀ c ∈ r, c.one = true) (h7 : Rs E w rows.flatten us)
  (h6 : rows = [] ∨ ∃ b off, a = some ⟨b, off, none⟩ ∧ off + us.length ≤ E.L b ∧ ∀ j u, us[j]? = some u → w.cell? ⟨b, off + j, none⟩ = some u) {tok : Tok} (z1 : tok = .nil → a = none ∧ cap = 0) (z2 : tok = .zero → cap = rows.length)
  (h8 : ∀ n, tok = .tip n → n < E.nx ∧ ∀ ver wv val, E.T n = some (ver, wv, val) → rows.length ≤ ver ∧ (rows.length = ver → val = .slice a rows.length cap)) : R E w (.list rows tok) (.slice a rows.length cap) := by
 refine .list (us := fun j => us.getD j Go.undef) h1 h2 h3 h4 h5 ?_ h7.us.1 z1 z2 h8
 rcases h6 with rfl | ⟨b, off, e, h6, h9⟩
 ·exact .inl rfl
 ·refine .inr ⟨b, off, e, by rw [← h7.1]; exact h6, fun j hj => h9 j _ (h7.us.2 j hj)⟩

section
variable {P : Program} {o : Oper} {st : St} {K : St → Prop}

def l8 : List (Nat × C) → Option (List (List C))
 | [] => some []
 | (_, c) :: r => match ir c, l8 r with
  | some cs, some rs => some (cs :: rs)
  | _, _ => none

theorem rp {E : Env} {w : World} : ∀ (ps : List (Nat × C)) (vs : List Value) (rows : List (List C)), vs.length = ps.length → (∀ (j i : Nat) (c : C), ps[j]? = some (i, c) → ∃ v, vs[j]? = some v ∧ R E w c v) → l8 ps = some rows →
  rows.length = ps.length ∧ Rs E w rows.flatten (vs.flatMap fun v => v.cells.toList) ∧ (∀ r ∈ rows, ∀ c ∈ r, c.one = true) ∧ ∀ (j : Nat) r v, rows[j]? = some r → vs[j]? = some v → r.length = v.cells.size
 | [], vs, rows, hl, _, hr => by
  have : vs = [] := List.eq_nil_of_length_eq_zero (by simpa using hl)
  subst this
  simp only [l8, Option.some.injEq] at hr
  subst hr
  exact ⟨rfl, Rs.nil, by simp, by simp⟩
 | (i, c) :: ps, vs, rows, hl, hv, hr => by
  obtain ⟨v, hv0, hrc⟩ := hv 0 i c rfl
  cases vs with
  | nil => simp at hl
  | cons v0 vs =>
   simp only [List.getElem?_cons_zero, Option.some.injEq] at hv0
   subst hv0
   simp only [l8] at hr
   split at hr
   ·rename_i cs rs e1 e2
    simp only [Option.some.injEq] at hr
    subst hr
    obtain ⟨q1, q2⟩ := hrc.cells e1
    obtain ⟨r1, r2, r3, r4⟩ := rp ps vs rs (by simpa using hl) (fun j i c hj => by simpa using hv (j + 1) i c (by simpa using hj)) e2
    refine ⟨by simp [r1], by simpa using q1.append r2, fun r hr c hc => ?_, fun j r v h1 h2 => ?_⟩
    ·rcases List.mem_cons.1 hr with rfl | hr
     ·exact q2 c hc
     ·exact r3 r hr c hc
    ·cases j with
     | zero => simp at h1 h2; subst h1; subst h2; have := q1.1; simpa using this.symm
     | succ j => simp at h1 h2; exact r4 j r v h1 h2
   ·cases hr

/-- A slice literal, laid for good. -/
theorem ud4 {t e : TypeId} {sz bytes n : Nat} {tok : Tok} (htok : tok = .none ∨ tok = .zero) [AppT P t e sz bytes] {parts : List (Nat × Operand)} {rows : List (List C)} (ho : o.op = .buildSlice t n parts.toArray) (hi : parts.map (·.1) = List.range n) (hr : l8 (parts.map fun p => (p.1, evC st p.2)) = some rows) (hn : n ≠ 0) (hs : 1 ≤ sz) (hsz : ∀ r ∈ rows, r.length = sz) (h24 : n * sz ≤ 16777216)
  (h : K (st.put o.dst (.list rows tok))) : EStep P o st K :=
 kh fun E w a hsim => by
  obtain ⟨ht, i, z, hie, hz, h1, h2, h3⟩ := AppT.spec (P := P) (t := t) (e := e) (sz := sz) (bytes := bytes)
  have hpl : parts.length = n := by have := congrArg List.length hi; simpa using this
  obtain ⟨r1, r2, r3, r4⟩ := rp (E := E) (w := w) (parts.map fun p => (p.1, evC st p.2)) (parts.map fun p => a.eval p.2) rows (by simp) (fun j i c hj => by
   rw [List.getElem?_map] at hj ⊢
   cases hp : parts[j]? with
   | none => rw [hp] at hj; cases hj
   | some p =>
    rw [hp] at hj
    simp only [Option.map_some, Option.some.injEq, Prod.mk.injEq] at hj
    obtain ⟨rfl, rfl⟩ := hj
    exact ⟨a.eval p.2, rfl, hsim.ev p.2⟩) hr
  simp only [List.length_map] at r1
  have hcs : ∀ v ∈ parts.map (fun p => a.eval p.2), v.cells.size = sz := fun v hv => by
   obtain ⟨j, hj⟩ := List.getElem?_of_mem hv
   have hlt : j < rows.length := by rw [r1]; simpa using (List.getElem?_eq_some_iff.1 hj).1
   rw [← r4 j _ v (List.getElem?_eq_getElem hlt) hj]
   exact hsz _ (List.getElem_mem hlt)
  have hpos : 0 < n * sz := Nat.mul_pos (by omega) (by omega)
  have hfill := Great.fill_whole (s := sz) (by omega) (parts.map fun p => a.eval p.2) ((Array.range (n * i.size)).map (z.cells[· % z.cells.size]!)) hcs (by simp [hpl, h1])
  have hparts : (((parts.map fun p => a.eval p.2).zipIdx 0).map fun x => (x.2, x.1)) = parts.map fun p => (p.1, a.eval p.2) := by
   apply List.ext_getElem?
   intro j
   simp only [List.getElem?_map, List.getElem?_zipIdx]
   cases hp : parts[j]? with
   | none => rfl
   | some p =>
    have h1 : (parts.map (·.1))[j]? = some p.1 := by rw [List.getElem?_map, hp]; rfl
    rw [hi] at h1
    have h2 : (List.range n)[j]? = some j := List.getElem?_range (by rw [← hpl]; exact (List.getElem?_eq_some_iff.1 hp).1)
    rw [h2] at h1
    simp only [Option.some.injEq] at h1
    simp [h1]
  rw [hparts, ← h1] at hfill
  have hrun := run_buildSlice (P := P) w t e n (parts.map fun p => (p.1, a.eval p.2)).toArray _ i z ht hie hz (by rw [h1]; omega) (by rw [h1]; omega) (by simpa using hfill)
  have hx0 : n * sz = 0 ∨ ∃ v, (w.alloc (.cells ((parts.map fun p => a.eval p.2).flatMap fun v => v.cells.toList).toArray e)).cell? ⟨w.heap.size, 0, none⟩ = some v := by
   rcases ow w ((parts.map fun p => a.eval p.2).flatMap fun v => v.cells.toList).toArray e with h0 | h0
   ·left
    have q1 := r2.1
    have q2 := i0 hsz
    simp only [List.size_toArray] at h0
    have q3 : rows.length = n := by omega
    rw [q3] at q2
    omega
   ·exact .inr h0
  have hev := Ev.laid hsim.g (o := .cells ((parts.map fun p => a.eval p.2).flatMap fun v => v.cells.toList).toArray e) (n * sz) (.inl rfl) hx0
  refine ⟨.slice (some ⟨w.heap.size, 0, none⟩) n n, w.alloc (.cells ((parts.map fun p => a.eval p.2).flatMap fun v => v.cells.toList).toArray e), _, st.G, st.nx, .list rows tok, ?_, hev, ?_, SimG.laid hsim.g (n * sz) (.inl rfl) hx0, h⟩
  ·simp only [execOp, ho, Sem.run_bind, List.map_toArray]
   rw [hrun]; rfl
  ·have hrl : rows.length = n := by omega
   have hfl := i0 hsz
   have hul := r2.1
   have := R.mk_list (a := some ⟨w.heap.size, 0, none⟩) (cap := n) (tok := tok) (by omega) (by unfold maxLen; have := Nat.le_mul_of_pos_right n (show 0 < sz by omega); omega) hs hsz r3 (r2.ev hev) (.inr ⟨w.heap.size, 0, rfl, by simp only [Env.lay, if_true]; rw [hul, hfl, hrl]; omega, fun j u hu => by
    rw [Nat.zero_add]
    exact jw (kr w _) (by simpa using hu)⟩) (by rcases htok with rfl | rfl <;> simp) (fun _ => hrl.symm) (by rcases htok with rfl | rfl <;> simp)
   rw [hrl] at this
   exact this
theorem dx {t e : TypeId} {sz bytes n : Nat} [AppT P t e sz bytes] {parts : List (Nat × Operand)} {rows : List (List C)} (ho : o.op = .buildSlice t n parts.toArray) (hi : parts.map (·.1) = List.range n) (hr : l8 (parts.map fun p => (p.1, evC st p.2)) = some rows) (hn : n ≠ 0) (hs : 1 ≤ sz) (hsz : ∀ r ∈ rows, r.length = sz) (h24 : n * sz ≤ 16777216)
  (h : K (st.put o.dst (.list rows .none))) : EStep P o st K := ud4 (.inl rfl) ho hi hr hn hs hsz h24 h
/-- An empty slice literal. -/
theorem x4 {t e : TypeId} {sz bytes : Nat} [AppT P t e sz bytes] (ho : o.op = .buildSlice t 0 #[]) (h : K (st.put o.dst (.list [] .zero))) : EStep P o st K :=
 kh fun E w a hsim => by
  obtain ⟨ht, i, z, hie, hz, h1, h2, h3⟩ := AppT.spec (P := P) (t := t) (e := e) (sz := sz) (bytes := bytes)
  have hev := Ev.laid hsim.g (o := .cells #[] e) 0 (.inl rfl)
  refine ⟨.slice (some ⟨w.heap.size, 0, none⟩) 0 0, w.alloc (.cells #[] e), _, st.G, st.nx, .list [] .zero, ?_, hev, ?_, SimG.laid hsim.g 0 (.inl rfl), h⟩
  ·simp [execOp, ho, Instr.buildSlice, run_underlying ht, sizeOf, typeInfo, hie, Instr.fill, newRow, newObj, Sem.run, show (Array.map (fun _ => (default : Value)) (Array.range 0)) = #[] from by simp]
  ·exact R.mk_list (rows := []) (a := some ⟨w.heap.size, 0, none⟩) (cap := 0) (sz := 1) (us := []) (Nat.le_refl _) (Nat.zero_le _) (Nat.le_refl _) (by simp) (by simp) Rs.nil (.inl rfl) (by simp) (by simp) (by simp)

/-- What an append has to know of the appended. -/
theorem td {E : Env} {w : World} {ys : List (List C)} {tk : Tok} {v : Value} (h : R E w (.list ys tk) v) {sz : Nat} (hsz : ∀ r ∈ ys, r.length = sz) : ∃ ao c news, v = .slice ao ys.length c ∧ news.length = ys.length * sz ∧ (ys.length = 0 ∨ ∃ a, ao = some a ∧ ∀ (j : Nat) u, news[j]? = some u → w.cell? (a.add j) = some u) ∧ Rs E w ys.flatten news ∧ (∀ r ∈ ys, ∀ c ∈ r, c.one = true) ∧ ∀ u ∈ news, u.oneCell' = true := by
 obtain ⟨ao, c, s, us, rfl, _, _, _, h4, h5, h6, h7, _⟩ := h.list_inv
 refine ⟨ao, c, us, rfl, by rw [h6.1]; exact i0 hsz, ?_, h6, h5, h6.oneCell fun c hc => ?_⟩
 ·rcases h7 with rfl | ⟨b, off, e, _, h8⟩
  ·exact .inl rfl
  ·exact .inr ⟨_, e, fun j u hu => by rw [lz]; exact h8 j u hu⟩
 ·obtain ⟨r, hr, hc⟩ := List.mem_flatten.1 hc
  exact h5 r hr c hc

/-- append to a slice without room: a copy. -/
theorem ud6 {t e : TypeId} {sz bytes : Nat} [AppT P t e sz bytes] {s x : Operand} {tok tk : Tok} {ys : List (List C)} (ho : o.op = .call { callee := .builtin .append, args := #[s, x], argTypes := #[t, t] }) (hs : evC st s = .list [] tok) (htok : tok = .zero ∨ tok = .nil) (hx : evC st x = .list ys tk) (hsz1 : 1 ≤ sz) (hsz : ∀ r ∈ ys, r.length = sz) (hb : ys.length * bytes ≤ 140737488355328) (hm : ys.length ≤ 9223372036854775807)
  (h : K (st.put o.dst (.list ys .none))) : EStep P o st K :=
 kh fun E w a hsim => by
  obtain ⟨ht, i, z, hie, hz, h1, h2, h3⟩ := AppT.spec (P := P) (t := t) (e := e) (sz := sz) (bytes := bytes)
  obtain ⟨as1, cap, _, _, e1, _, _, _, _, _, _, _, z1, z2, _⟩ := (hs ▸ hsim.ev s).list_inv
  have hcap : cap = 0 := by
   rcases htok with h | h
   ·exact z2 h
   ·exact (z1 h).2
  subst hcap
  obtain ⟨ao, c, news, e2, hl, hnews, hr, hone, h1c⟩ := td (hx ▸ hsim.ev x) hsz
  subst h1; subst h2
  by_cases hy : ys.length = 0
  ·have : ys = [] := List.eq_nil_of_length_eq_zero hy
   subst this
   refine ⟨.slice as1 0 0, w, E, st.G, st.nx, .list [] .none, ?_, Ev.refl E w, ?_, hsim.g, h⟩
   ·have := nw (P := P) w t o.type e i ht hie as1 ao 0 0 c (Nat.le_refl _)
    simp only [execOp, ho, resolve, invoke, builtin, Sem.run_bind, Sem.run_pure, Result.andThen_ok, List.map_toArray, List.map_cons, List.map_nil, e1, e2]
    simp only [List.length_nil] at this ⊢
    rw [this]; rfl
   ·exact R.mk_list (rows := []) (cap := 0) (sz := 1) (us := []) (Nat.le_refl _) (Nat.zero_le _) (Nat.le_refl _) (by simp) (by simp) Rs.nil (.inl rfl) (by simp) (by simp) (by simp)
  ·obtain ⟨ad, rfl, hcells⟩ := hnews.resolve_left hy
   have key : ∃ nc, (Builtin.append_ #[t, t] o.type #[.slice as1 0 0, .slice (some ad) ys.length c]).run P w = .ok (.slice (some ⟨w.heap.size, 0, none⟩) ys.length nc) (w.drew.alloc (.cells (news.toArray ++ Builtin.zeroCells z.cells (nc - ys.length)) e)) ∧ ys.length ≤ nc ∧ nc ≤ maxLen := by
    refine ⟨grownCap w (0 + ys.length) 0 e, ?_, ?_, ?_⟩
    ·cases as1 with
     | none =>
      have := run_append_nil (P := P) w t o.type e i z ht hie hz ad ys.length c news hl hcells (by omega) (by omega) (by omega)
      simpa using this
     | some a0 =>
      have := run_append_grow (P := P) w t o.type e i z ht hie hz a0 0 0 [] (by simp) (by simp) ad ys.length c news hl hcells (by omega) (by omega) (growslice_fits (by omega) (by simpa using hb))
      simpa using this
    ·have := grownCap_ge w (0 + ys.length) 0 e; omega
    ·exact grownCap_le_maxLen w (0 + ys.length) 0 e (by unfold maxLen; omega)
   obtain ⟨nc, hrun, hnc, hnm⟩ := key
   have hx0 : ys.length * i.size = 0 ∨ ∃ v, (w.drew.alloc (.cells (news.toArray ++ Builtin.zeroCells z.cells (nc - ys.length)) e)).cell? ⟨w.heap.size, 0, none⟩ = some v := by
    rcases ow w.drew (news.toArray ++ Builtin.zeroCells z.cells (nc - ys.length)) e with h0 | h0
    ·left
     simp only [Array.size_append, List.size_toArray] at h0
     omega
    ·exact .inr h0
   have hev := Ev.laid hsim.g (o := .cells (news.toArray ++ Builtin.zeroCells z.cells (nc - ys.length)) e) (ys.length * i.size) (.inr rfl) hx0
   refine ⟨.slice (some ⟨w.heap.size, 0, none⟩) ys.length nc, w.drew.alloc (.cells (news.toArray ++ Builtin.zeroCells z.cells (nc - ys.length)) e), _, st.G, st.nx, .list ys .none, ?_, hev, ?_, SimG.laid hsim.g (ys.length * i.size) (.inr rfl) hx0, h⟩
   ·simp only [execOp, ho, resolve, invoke, builtin, Sem.run_bind, Sem.run_pure, Result.andThen_ok, List.map_toArray, List.map_cons, List.map_nil, e1, e2]
    simp only [List.length_nil]
    rw [hrun]; rfl
   ·refine R.mk_list hnc hnm hsz1 hsz hone (hr.ev hev) (.inr ⟨w.heap.size, 0, rfl, by simp only [Env.lay, if_true]; omega, fun j u hu => ?_⟩) (by simp) (by simp) (by simp)
    rw [Nat.zero_add]
    refine jw (kr w.drew _) ?_
    have hlt := (List.getElem?_eq_some_iff.1 hu).1
    rw [Array.getElem?_append_left (by simpa using hlt)]
    simpa using hu

theorem lf {w : World} {base n size : Nat} {e : TypeId} {v : Value} {xs : List Value} (h : w.ownsRow base e size v n xs) {b : Nat} (hb : blk v = some b) {j : Nat} (hj : j < n * size) : w.cell? ⟨b, j, none⟩ = xs[j]? := by
 rcases h.2 with ⟨rfl, _⟩ | ⟨g, cap, cur, rfl, _, hh, _, _, _, htk⟩
 ·simp [blk] at hb
 ·simp only [blk, Option.some.injEq] at hb
  subst hb
  rw [← htk, List.getElem?_take, if_pos hj]
  simp [World.cell?, hh]
theorem n4 {w : World} {base n size : Nat} {e : TypeId} {v : Value} {xs : List Value} (h : w.ownsRow base e size v n xs) {b : Nat} (hb : blk v = some b) : ∃ cap, v = .slice (some ⟨b, 0, none⟩) n cap ∧ n ≤ cap ∧ cap ≤ maxLen ∧ b < w.heap.size := by
 rcases h.2 with ⟨rfl, _⟩ | ⟨g, cap, cur, rfl, _, hh, h1, h2, _, htk⟩
 ·simp [blk] at hb
 ·simp only [blk, Option.some.injEq] at hb
  subst hb
  exact ⟨cap, rfl, h1, h2, (Array.getElem?_eq_some_iff.1 hh).1⟩

/-- append onto the row's end. -/
theorem qo {t e : TypeId} {sz bytes n : Nat} [AppT P t e sz bytes] {s x : Operand} {tk : Tok} {rows ys : List (List C)} (ho : o.op = .call { callee := .builtin .append, args := #[s, x], argTypes := #[t, t] }) (hs : evC st s = .list rows (.tip n)) (hG : st.G n = some (.tip rows.length e sz)) (hx : evC st x = .list ys tk) (hszr : ∀ r ∈ rows, r.length = sz) (hsz : ∀ r ∈ ys, r.length = sz) (hb : (rows.length + ys.length) * bytes ≤ 140737488355328) (hm : rows.length + ys.length ≤ 9223372036854775807)
  (h : K (St.put { st with G := bc st.G n (.tip (rows.length + ys.length) e sz) } o.dst (.list (rows ++ ys) (.tip n)))) : EStep P o st K :=
 kh fun E w a hsim => by
  obtain ⟨ht, i, z, hie, hz, h1, h2, h3⟩ := AppT.spec (P := P) (t := t) (e := e) (sz := sz) (bytes := bytes)
  obtain ⟨val, us, hT, hown, hL, hsz1⟩ := hsim.g.obj n _ hG
  obtain ⟨as1, cap, sz', us', e1, h6, h7, h8, h9, h10, h11, h12, _, _, h13⟩ := (hs ▸ hsim.ev s).list_inv
  obtain ⟨q1, q2⟩ := h13 n rfl
  have hval := (q2 _ _ _ hT).2 rfl
  obtain ⟨ao, c, news, e2, hl, hnews, hr, hone, h1c⟩ := td (hx ▸ hsim.ev x) hsz
  subst h1; subst h2
  obtain ⟨v', w', hrun, hown', hgr, hne, heq⟩ := ui (P := P) w E.B t o.type e i z ht hie hz h3 val rows.length us hown ao ys.length c news hl hnews h1c (by unfold maxLen; omega) hb hsim.g.base
  have hexec : (execOp a.eval o).run P w = .ok (.value v') w' := by
   simp only [execOp, ho, resolve, invoke, builtin, Sem.run_bind, Sem.run_pure, Result.andThen_ok, List.map_toArray, List.map_cons, List.map_nil, e1, e2]
   rw [← hval, hrun]; rfl
  by_cases hy : ys.length = 0
  ·have hyn : ys = [] := List.eq_nil_of_length_eq_zero hy
   subst hyn
   have hv : v' = val := heq rfl
   have hw : w' = w := by
    have := nw (P := P) w t o.type e i ht hie as1 ao rows.length cap c h6
    rw [← hval] at this
    simp only [List.length_nil] at hrun
    rw [hrun] at this
    injection this
   subst hv; subst hw
   have hGeq : bc st.G n (.tip (rows.length + ([] : List (List C)).length) e i.size) = st.G := by
    funext k
    simp only [bc]
    split
    ·rename_i e; subst e; simp [hG]
    ·rfl
   refine ⟨v', w', E, _, st.nx, _, hexec, Ev.refl E w', ?_, ?_, h⟩
   ·rw [List.append_nil, hval, ← e1]; exact hs ▸ hsim.ev s
   ·rw [hGeq]; exact hsim.g
  ·obtain ⟨g, cap', rfl⟩ := hne hy
   have hulen : us.length = rows.length * i.size := hown.1
   -- the values in the row are those of the slice
   have hpos : 0 < i.size := hsz1
   have hcellsg : ∃ o, w'.heap[g]? = some o ∧ o.isCells = true := by
    rcases hown'.2 with ⟨e, _⟩ | ⟨g', cap, cur, e, _, hh, _⟩
    ·cases e
    ·simp only [Value.slice.injEq, Option.some.injEq, Addr.mk.injEq] at e
     obtain ⟨⟨rfl, _⟩, _⟩ := e
     exact ⟨_, hh, rfl⟩
   have hchg : Chg E w w' rows.length 0 val (rows.length + ys.length) 0 (.slice (some ⟨g, 0, none⟩) (rows.length + ys.length) cap') ((rows.length + ys.length) * i.size) := by
    have hgb : w.grownBy w' (blk val) := by
     rcases hgr with ⟨_, h⟩ | ⟨_, h⟩
     ·exact h
     ·exact ⟨h.os, h.tape, h.output, h.size, fun k hk _ => h.block k hk (by simp)⟩
    refine ⟨⟨hgb.os, hgb.tape, hgb.output, hgb.size, fun k hk => hgb.block k (Nat.lt_of_lt_of_le hk hsim.g.base) fun e => ?_⟩, fun k hk hne => hgb.block k hk (fun e => hne e.symm), fun b hb => ?_, fun b j hb hj => ?_, .inl (by omega), fun b o hb ho => ?_, fun _ b hb => ?_, fun b hb _ => ?_⟩
    ·have := (hsim.g.tb n _ _ _ k hT e.symm).1; omega
    ·simp only [blk, Option.some.injEq] at hb
     subst hb
     rcases hgr with ⟨h, _⟩ | ⟨h, _⟩
     ·left
      refine ⟨h.symm, ?_⟩
      rw [hL g h.symm]
      exact Nat.mul_le_mul_right _ (by omega)
     ·right
      simp only [blk, Option.some.injEq] at h
      subst h
      obtain ⟨_, _, _, _, hlt⟩ := n4 hown' (b := w.heap.size) rfl
      exact ⟨Nat.le_refl _, hlt⟩
    ·-- the row's committed cells
     have hb' := hL b hb
     rw [hb'] at hj
     rcases hgr with ⟨h, _⟩ | ⟨_, h⟩
     ·have hbg : b = g := by rw [hb] at h; simp only [blk, Option.some.injEq] at h; exact h.symm
      subst hbg
      have c1 := lf hown hb hj
      have c2 := lf hown' (b := b) rfl (j := j) (by rw [Nat.add_mul]; omega)
      rw [c1, c2, List.getElem?_append_left (by omega)]
     ·have hlt := (hsim.g.tb n _ _ _ b hT hb).2
      exact World.cell?_of_block (w := w) (h.block b hlt (by simp))
    ·rcases hown.2 with ⟨e, _⟩ | ⟨g', cap, cur, e, _, hh, _⟩
     ·rw [e] at hb; simp [blk] at hb
     ·rw [e] at hb
      simp only [blk, Option.some.injEq] at hb
      subst hb
      rw [hh] at ho; cases ho
      rcases hgr with ⟨h, _⟩ | ⟨_, h⟩
      ·have hbg : g' = g := by rw [e] at h; simp only [blk, Option.some.injEq] at h; exact h.symm
       subst hbg
       exact hcellsg
      ·have hlt := (Array.getElem?_eq_some_iff.1 hh).1
       exact ⟨_, (h.block g' hlt (by simp)).trans hh, rfl⟩
    ·simp only [blk, Option.some.injEq] at hb
     subst hb
     exact hcellsg
    ·simp only [blk, Option.some.injEq] at hb
     subst hb
     have hpos2 : 0 < (rows.length + ys.length) * i.size := Nat.mul_pos (by omega) hpos
     have h0 := lf hown' (b := g) rfl (j := 0) hpos2
     rw [List.getElem?_eq_getElem (by rw [hown'.1]; exact hpos2)] at h0
     exact ⟨_, h0⟩
   have hev := Ev.chg hsim.g hT hchg
   have hcells : ∀ (j : Nat) u, (us ++ news)[j]? = some u → w'.cell? ⟨g, j, none⟩ = some u := fun j u hu => by
    rw [lf hown' (b := g) rfl (j := j) (by have := (List.getElem?_eq_some_iff.1 hu).1; rw [hown'.1] at this; exact this)]
    exact hu
   obtain ⟨cap2, hc2, hc3, hc4, _⟩ := n4 hown' (b := g) rfl
   simp only [Value.slice.injEq, true_and] at hc2
   subst hc2
   -- the slice's own values
   have hrus : Rs E w rows.flatten us := by
    rcases h12 with rfl | ⟨b, off, ea, h14, h15⟩
    ·have : us = [] := List.eq_nil_of_length_eq_zero (by rw [hulen]; simp)
     subst this
     exact Rs.nil
    ·have hblk : blk val = some b := by rw [hval, ea]; rfl
     have heq : us' = us := by
      have hl1 : us'.length = us.length := by rw [h11.1, hulen]; exact i0 hszr
      have hoff : off = 0 := by
       obtain ⟨_, hv, _⟩ := n4 hown hblk
       rw [hval, ea] at hv
       simp only [Value.slice.injEq, Option.some.injEq, Addr.mk.injEq] at hv
       exact hv.1.2.1
      subst hoff
      apply List.ext_getElem?
      intro j
      by_cases hj : j < us'.length
      ·have c1 := lf hown hblk (j := j) (by omega)
       have c2 := h15 j _ (List.getElem?_eq_getElem hj)
       rw [Nat.zero_add] at c2
       rw [List.getElem?_eq_getElem hj, ← c2, c1]
      ·rw [List.getElem?_eq_none (by omega), List.getElem?_eq_none (by omega)]
     rw [← heq]; exact h11
   have hobj : ObjOk (E.chg n (rows.length + ys.length, 0, .slice (some ⟨g, 0, none⟩) (rows.length + ys.length) cap') ((rows.length + ys.length) * i.size)) w' n (.tip (rows.length + ys.length) e i.size) := by
    refine ⟨_, us ++ news, by simp [Env.chg], hown', fun b hb => ?_, hsz1⟩
    simp only [blk, Option.some.injEq] at hb
    subst hb
    simp [Env.chg, blk]
   refine ⟨_, w', _, _, st.nx, .list (rows ++ ys) (.tip n), hexec, hev, ?_, SimG.chg hsim.g hT hchg hobj, h⟩
   have hlen : (rows ++ ys).length = rows.length + ys.length := List.length_append
   have := R.mk_list (E := E.chg n (rows.length + ys.length, 0, .slice (some ⟨g, 0, none⟩) (rows.length + ys.length) cap') ((rows.length + ys.length) * i.size)) (w := w') (rows := rows ++ ys) (a := some ⟨g, 0, none⟩) (cap := cap') (sz := i.size) (us := us ++ news) (tok := .tip n) (by omega) hc4 hsz1
    (fun r hr => by rcases List.mem_append.1 hr with hr | hr; exact hszr r hr; exact hsz r hr)
    (fun r hr => by rcases List.mem_append.1 hr with hr | hr; exact h10 r hr; exact hone r hr)
    (by rw [List.flatten_append]; exact (hrus.ev hev).append (hr.ev hev))
    (.inr ⟨g, 0, rfl, by rw [hown'.1]; simp [Env.chg, blk], fun j u hu => by rw [Nat.zero_add]; exact hcells j u hu⟩)
    (by simp) (by simp) (fun m hm => by
     simp only [Tok.tip.injEq] at hm
     subst hm
     refine ⟨q1, fun ver wv val ht => ?_⟩
     simp only [Env.chg, if_true, Option.some.injEq, Prod.mk.injEq] at ht
     obtain ⟨rfl, rfl, rfl⟩ := ht
     rw [hlen]
     exact ⟨Nat.le_refl _, fun _ => rfl⟩)
   rw [hlen] at this
   exact this
end
end Go.AB
namespace Go.AB
open Go Go.RowKit
open Go.AB.Enc (cells)
variable {ρ : Option Nat}

section
variable {P : Program} {Q : Exit → St → Prop} {st : St}

/-- A nil slice in a slot gets a name: it may grow. -/
theorem qx {c : Code} (i : Nat) (e : TypeId) (sz : Nat) (h0 : st.at i = .list [] .nil) (hsz : 1 ≤ sz) (h : AW ρ P c Q { st with r := (i, .list [] (.tip st.nx)) :: st.r, G := bc st.G st.nx (.tip 0 e sz), nx := st.nx + 1 }) : AW ρ P c Q st := by
 intro E w a hs
 have hnx := hs.g.nx
 have hev := Ev.name hs.g (.slice none 0 0) (fun b o hb _ => by simp [blk] at hb)
 have hg := SimG.name hs.g (.slice none 0 0) (.tip 0 e sz) (fun b hb => by simp [blk] at hb) ⟨.slice none 0 0, [], by simp [Env.name, hnx], World.ownsRow_nil _ _ _ _, fun b hb => by simp [blk] at hb, hsz⟩
 have hp := hs.at i
 rw [h0] at hp
 have hs2 := hs.evd hev hg
 refine gd (fun _ _ _ hq => kp hev hq) (h _ w a ⟨hs.d.ev hev, hs.sz, fun j v hj => ?_, hg⟩)
 simp only [cq]
 cases hb : Nat.beq i j
 ·exact hs2.t j v hj
 ·have hij := Nat.eq_of_beq_eq_true hb
  subst hij
  have hv : a.tmps.getD i undef = v := by rw [Array.getD_eq_getD_getElem?, hj]; rfl
  rw [hv] at hp
  obtain ⟨as1, cap, s, us, rfl, h1, h2, _, _, _, _, _, z1, _⟩ := hp.list_inv
  obtain ⟨rfl, rfl⟩ := z1 rfl
  exact R.mk_list (rows := []) (sz := 1) (us := []) (Nat.le_refl _) (Nat.zero_le _) (Nat.le_refl _) (by simp) (by simp) Rs.nil (.inl rfl) (by simp) (by simp) fun n hn => by
   simp only [Tok.tip.injEq] at hn
   subst hn
   refine ⟨by simp [Env.name]; omega, fun ver wv val ht => ?_⟩
   simp only [Env.name] at ht
   rw [if_pos (by omega)] at ht
   simp only [Option.some.injEq, Prod.mk.injEq] at ht
   obtain ⟨rfl, rfl, rfl⟩ := ht
   exact ⟨Nat.le_refl _, fun _ => rfl⟩

/-- .. in a variable's cell. -/
theorem kz {c : Code} (n off wv : Nat) (cs : List C) (e : TypeId) (sz : Nat) (hG : st.G n = some (.box wv cs)) (h0 : cs[off]? = some (.list [] .nil)) (hsz : 1 ≤ sz) (h : AW ρ P c Q { st with G := bc (bc st.G st.nx (.tip 0 e sz)) n (.box wv (cs.set off (.list [] (.tip st.nx)))), nx := st.nx + 1 }) : AW ρ P c Q st := by
 intro E w a hs
 have hnx := hs.g.nx
 have hev := Ev.name hs.g (.slice none 0 0) (fun b o hb _ => by simp [blk] at hb)
 have hg := SimG.name hs.g (.slice none 0 0) (.tip 0 e sz) (fun b hb => by simp [blk] at hb) ⟨.slice none 0 0, [], by simp [Env.name, hnx], World.ownsRow_nil _ _ _ _, fun b hb => by simp [blk] at hb, hsz⟩
 obtain ⟨b, us, tt, hT, hh, hone, hr, hL⟩ := hs.g.obj n _ hG
 have hn := hs.g.lt n _ hT
 have hg2 : SimG (E.name (.slice none 0 0)) w (bc (bc st.G st.nx (.tip 0 e sz)) n (.box wv (cs.set off (.list [] (.tip st.nx))))) (st.nx + 1) := by
  refine ⟨hg.nx, fun k o ho => ?_, hg.lt, hg.tb, hg.ap, hg.fresh, hg.base⟩
  simp only [bc] at ho
  split at ho
  ·rename_i ek
   subst ek
   simp only [Option.some.injEq] at ho
   subst ho
   have hr2 := hr.ev hev
   refine ⟨b, us, tt, by simp only [Env.name]; rw [if_neg (by omega)]; exact hT, hh, fun c hc => ?_, ⟨by rw [hr.1]; simp, fun j c v hc hv => ?_⟩, hL⟩
   ·rcases List.mem_or_eq_of_mem_set hc with hc | rfl
    ·exact hone c hc
    ·rfl
   ·rw [List.getElem?_set] at hc
    split at hc
    ·rename_i ej
     subst ej
     split at hc
     ·simp only [Option.some.injEq] at hc
      subst hc
      have hp := hr2.2 off _ v h0 hv
      obtain ⟨as1, cap, s, us', rfl, h1, h2, _, _, _, _, _, z1, _⟩ := hp.list_inv
      obtain ⟨rfl, rfl⟩ := z1 rfl
      exact R.mk_list (rows := []) (sz := 1) (us := []) (Nat.le_refl _) (Nat.zero_le _) (Nat.le_refl _) (by simp) (by simp) Rs.nil (.inl rfl) (by simp) (by simp) fun n hn => by
       simp only [Tok.tip.injEq] at hn
       subst hn
       refine ⟨by simp [Env.name]; omega, fun ver wv val ht => ?_⟩
       simp only [Env.name] at ht
       rw [if_pos (by omega)] at ht
       simp only [Option.some.injEq, Prod.mk.injEq] at ht
       obtain ⟨rfl, rfl, rfl⟩ := ht
       exact ⟨Nat.le_refl _, fun _ => rfl⟩
     ·cases hc
    ·exact hr2.2 j c v hc hv
  ·rename_i ek
   exact hg.obj k o ho
 exact gd (fun _ _ _ hq => kp hev hq) (h _ w a ⟨hs.d.ev hev, hs.sz, fun j v hj => (hs.t j v hj).ev hev, hg2⟩)
end

theorem i5 {α : Type} [Enc α] (xs : List α) : ∀ r ∈ xs.map (cells (α := α)), r.length = Enc.n α := by
 intro r hr
 obtain ⟨x, _, rfl⟩ := List.mem_map.1 hr
 exact Enc.len x

section
variable {P : Program} {o : Oper} {st : St} {K : St → Prop}
/-- append of data. -/
theorem gr {α : Type} [Enc α] {t e : TypeId} {bytes n : Nat} [AppT P t e (Enc.n α) bytes] {s x : Operand} {tk : Tok} {rows : List (List C)} {xs : List α} {m : Nat} (ys : List α) (ho : o.op = .call { callee := .builtin .append, args := #[s, x], argTypes := #[t, t] }) (hs : evC st s = .list (xs.map cells) (.tip n)) (hG : st.G n = some (.tip m e (Enc.n α))) (hm : m = xs.length) (hx : evC st x = .list rows tk) (hy : rows = ys.map cells) (hb : (xs.length + ys.length) * bytes ≤ 140737488355328)
  (h : K (St.put { st with G := bc st.G n (.tip (xs ++ ys).length e (Enc.n α)) } o.dst (.list ((xs ++ ys).map cells) (.tip n)))) (hmax : xs.length + ys.length ≤ 9223372036854775807) : EStep P o st K := by
 subst hy; subst hm
 refine qo (rows := xs.map cells) (ys := ys.map cells) (n := n) (tk := tk) ho hs (by rw [List.length_map]; exact hG) hx (i5 xs) (i5 ys) (by simpa using hb) (by simpa using hmax) ?_
 rw [← List.map_append]
 simpa [List.length_append] using h

/-- append to a slice without room, of data. -/
theorem x5 {α : Type} [Enc α] {t e : TypeId} {bytes : Nat} [AppT P t e (Enc.n α) bytes] {s x : Operand} {tok tk : Tok} {ys : List α} (ho : o.op = .call { callee := .builtin .append, args := #[s, x], argTypes := #[t, t] }) (hs : evC st s = .list [] tok) (htok : tok = .zero ∨ tok = .nil) (hx : evC st x = .list (ys.map cells) tk) (hsz1 : 1 ≤ Enc.n α) (hb : ys.length * bytes ≤ 140737488355328) (hm : ys.length ≤ 9223372036854775807)
  (h : K (st.put o.dst (lst ys))) : EStep P o st K :=
 ud6 ho hs htok hx hsz1 (i5 ys) (by simpa using hb) (by simpa using hm) h

theorem SStep.e' {D : Nat → Prop} {c : C} (h : SStep P D o st c) (hk : K (st.put o.dst c)) : EStep P o st K := h.e.mono fun _ e => e ▸ hk
end

/-- Two new variables, in either order. -/
theorem t5 {E : Env} {w w2 : World} {st : St} {a : Act} (hs : Sim E w st a) {cs1 cs2 : List C} {us1 us2 : Array Value} {t1 t2 : TypeId} {b1 b2 d1 d2 : Nat}
  (h1 : Rs E w cs1 us1.toList) (h2 : Rs E w cs2 us2.toList) (o1 : ∀ c ∈ cs1, c.one = true) (o2 : ∀ c ∈ cs2, c.one = true) (hd : d1 ≠ d2)
  (hw : (w2 = (w.alloc (.cells us1 t1)).alloc (.cells us2 t2) ∧ b1 = w.heap.size ∧ b2 = w.heap.size + 1) ∨ (w2 = (w.alloc (.cells us2 t2)).alloc (.cells us1 t1) ∧ b1 = w.heap.size + 1 ∧ b2 = w.heap.size)) :
  ∃ E', Ev E w E' w2 ∧ Sim E' w2 { st with r := (d2, .box (st.nx + 1) 0 0) :: (d1, .box st.nx 0 0) :: st.r, G := bc (bc st.G st.nx (.box 0 cs1)) (st.nx + 1) (.box 0 cs2), nx := st.nx + 1 + 1 } ((a.put (some d1) (.pointer (some ⟨b1, 0, none⟩))).put (some d2) (.pointer (some ⟨b2, 0, none⟩))) := by
 -- both blocks are there, and nothing of them is laid
 obtain ⟨E2, hev2, hg2, hx1, hx2, hb1, hb2, hne, hl1, hl2, hT, hnx2⟩ : ∃ E2, Ev E w E2 w2 ∧ SimG E2 w2 st.G st.nx ∧ w2.heap[b1]? = some (.cells us1 t1 (0, 0)) ∧ w2.heap[b2]? = some (.cells us2 t2 (0, 0)) ∧ (w.heap.size ≤ b1 ∧ b1 < w2.heap.size) ∧ (w.heap.size ≤ b2 ∧ b2 < w2.heap.size) ∧ b1 ≠ b2 ∧ E2.L b1 = 0 ∧ E2.L b2 = 0 ∧ E2.T = E.T ∧ E2.nx = E.nx := by
  rcases hw with ⟨rfl, rfl, rfl⟩ | ⟨rfl, rfl, rfl⟩
  ·have ha := Ev.laid hs.g (o := .cells us1 t1) 0 (.inl rfl)
   have ga := SimG.laid hs.g (o := .cells us1 t1) 0 (.inl rfl)
   have hb := Ev.laid ga (o := .cells us2 t2) 0 (.inl rfl)
   have gb := SimG.laid ga (o := .cells us2 t2) 0 (.inl rfl)
   refine ⟨_, ha.trans hb, gb, ?_, ?_, ⟨by omega, by simp; try omega⟩, ⟨by omega, by simp; try omega⟩, by omega, ?_, ?_, rfl, rfl⟩
   ·rw [Below.heap_alloc _ _ _ (by simp)]; exact kr w _
   ·have := kr (w.alloc (.cells us1 t1)) (.cells us2 t2); simpa using this
   ·have := ga.fresh; simp [Env.lay]
   ·simp [Env.lay]
  ·have ha := Ev.laid hs.g (o := .cells us2 t2) 0 (.inl rfl)
   have ga := SimG.laid hs.g (o := .cells us2 t2) 0 (.inl rfl)
   have hb := Ev.laid ga (o := .cells us1 t1) 0 (.inl rfl)
   have gb := SimG.laid ga (o := .cells us1 t1) 0 (.inl rfl)
   refine ⟨_, ha.trans hb, gb, ?_, ?_, ⟨by omega, by simp; try omega⟩, ⟨by omega, by simp; try omega⟩, by omega, ?_, ?_, rfl, rfl⟩
   ·have := kr (w.alloc (.cells us2 t2)) (.cells us1 t1); simpa using this
   ·rw [Below.heap_alloc _ _ _ (by simp)]; exact kr w _
   ·simp [Env.lay]
   ·simp [Env.lay]
 have hnx := hg2.nx
 have hq1 : ∀ n t, E.T n = some t → blk t.2.2 ≠ some b1 := fun n t ht hb => by have := (hs.g.tb n t.1 t.2.1 t.2.2 _ ht hb).2; omega
 have hq2 : ∀ n t, E.T n = some t → blk t.2.2 ≠ some b2 := fun n t ht hb => by have := (hs.g.tb n t.1 t.2.1 t.2.2 _ ht hb).2; omega
 have hev3 := hev2.thenName (.pointer (some ⟨b1, 0, none⟩)) (fun b o hb ho => by simp only [blk, Option.some.injEq] at hb; subst hb; have := (Array.getElem?_eq_some_iff.1 ho).1; omega)
 have hg3 : SimG (E2.name (.pointer (some ⟨b1, 0, none⟩))) w2 (bc st.G st.nx (.box 0 cs1)) (st.nx + 1) := SimG.name hg2 (.pointer (some ⟨b1, 0, none⟩)) (.box 0 cs1) (fun b hb => by
   simp only [blk, Option.some.injEq] at hb
   subst hb
   exact ⟨by rw [hev2.B]; have := hs.g.base; omega, hb1.2, fun n t ht => hq1 n t (hT ▸ ht)⟩) ⟨b1, us1, t1, by simp [Env.name, hnx], hx1, o1, h1.ev hev3, hl1⟩
 have hnx3 := hg3.nx
 have hev4 := hev3.thenName (.pointer (some ⟨b2, 0, none⟩)) (fun b o hb ho => by simp only [blk, Option.some.injEq] at hb; subst hb; have := (Array.getElem?_eq_some_iff.1 ho).1; omega)
 have hg4 := SimG.name hg3 (.pointer (some ⟨b2, 0, none⟩)) (.box 0 cs2) (fun b hb => by
   simp only [blk, Option.some.injEq] at hb
   subst hb
   refine ⟨by rw [show (E2.name (.pointer (some ⟨b1, 0, none⟩))).B = E2.B from rfl, hev2.B]; have := hs.g.base; omega, hb2.2, fun n t ht => ?_⟩
   simp only [Env.name] at ht
   split at ht
   ·simp only [Option.some.injEq] at ht
    subst ht
    simp [blk, hne]
   ·exact hq2 n t (hT ▸ ht)) ⟨b2, us2, t2, by simp [Env.name, hnx], hx2, o2, h2.ev hev4, hl2⟩
 refine ⟨_, hev4, ?_⟩
 have hs4 := hs.evd hev4 hg4
 have e1 : ((E2.name (.pointer (some ⟨b1, 0, none⟩))).name (.pointer (some ⟨b2, 0, none⟩))).T st.nx = some (0, 0, .pointer (some ⟨b1, 0, none⟩)) := by simp [Env.name, hnx]
 have e2 : ((E2.name (.pointer (some ⟨b1, 0, none⟩))).name (.pointer (some ⟨b2, 0, none⟩))).T (st.nx + 1) = some (0, 0, .pointer (some ⟨b2, 0, none⟩)) := by simp [Env.name, hnx]
 have e3 : ((E2.name (.pointer (some ⟨b1, 0, none⟩))).name (.pointer (some ⟨b2, 0, none⟩))).nx = st.nx + 1 + 1 := by simp [Env.name, hnx]
 refine (hs4.put (some d1) (c := .box st.nx 0 0) (v := .pointer (some ⟨b1, 0, none⟩)) ?_).put (some d2) (c := .box (st.nx + 1) 0 0) ?_
 ·refine .box (by omega) fun ver' wv val ht => ?_
  rw [e1] at ht
  simp only [Option.some.injEq, Prod.mk.injEq] at ht
  obtain ⟨rfl, rfl, rfl⟩ := ht
  exact ⟨Nat.le_refl _, fun _ => rfl⟩
 ·refine .box (by omega) fun ver' wv val ht => ?_
  rw [e2] at ht
  simp only [Option.some.injEq, Prod.mk.injEq] at ht
  obtain ⟨rfl, rfl, rfl⟩ := ht
  exact ⟨Nat.le_refl _, fun _ => rfl⟩

section
variable {P : Program} {ol : List Oper} {K : St → Prop} {D : List Nat} {late Ef N : Nat → Bool} {i j : Nat} {π : List (Nat × Option Nat)} {o o' : Oper} {st : St}
theorem ufo {t1 t2 d1 d2 : Nat} {cs1 cs2 : List C} [ZeroC P t1 cs1] [ZeroC P t2 cs2] (hol : ol[i]? = some o) (hol' : ol[j]? = some o') (h1 : o.op = .alloc t1) (h2 : o'.op = .alloc t2) (hd1 : o.dst = some d1) (hd2 : o'.dst = some d2) (hg1 : o.guard = none) (hg2 : o'.guard = none) (hne : d1 ≠ d2)
  (hD : ∀ n ∈ D, (st.G n).isSome = true ∧ n ≠ st.nx ∧ n ≠ st.nx + 1)
  (h : jb P ol.toArray K D late Ef N false π { st with r := (d2, .box (st.nx + 1) 0 0) :: (d1, .box st.nx 0 0) :: st.r, G := bc (bc st.G st.nx (.box 0 cs1)) (st.nx + 1) (.box 0 cs2), nx := st.nx + 1 + 1 }) : jb P ol.toArray K D late Ef N false ((i, some j) :: π) st := by
 have ho : ol.toArray[i]? = some o := by simpa using hol
 have ho' : ol.toArray[j]? = some o' := by simpa using hol'
 intro E0 w0 Q hQ E1 w1 a hev hs hb
 obtain ⟨z1, r1, q1, q1'⟩ := ZeroC.run (P := P) (t := t1) E1 w1
 obtain ⟨z2, r2, q2, q2'⟩ := ZeroC.run (P := P) (t := t2) E1 w1
 have keep : ∀ (w : World) (ob : Obj), w1.heap.size ≤ w.heap.size → Keeps E0 (· ∈ D) w0 w → Keeps E0 (· ∈ D) w0 (w.alloc ob) := fun w ob hle hk => by
  refine ⟨fun b i hi => ?_, fun n hn ver wv val b ht hb2 => ?_⟩
  ·have hlt : b < w1.heap.size := by
    rcases Nat.lt_or_ge b w1.heap.size with h | h
    ·exact h
    ·have := hs.g.fresh b h
     have := hev.L b
     omega
   exact (World.cell?_of_block (w := w) (Below.heap_alloc w ob b (by omega))).trans (hk.1 b i hi)
  ·have := hb rfl n hn
   have hlt := (hs.g.tb n ver wv val b (this.trans ht) hb2).2
   exact (Below.heap_alloc w ob b (by omega)).trans (hk.2 n hn ver wv val b ht hb2)
 have hrun1 : ∀ (ac : Act) (w : World), (execOp ac.eval o).run P w = .ok (.value (.pointer (some ⟨w.heap.size, 0, none⟩))) (w.alloc (.cells z1.cells t1)) := fun ac w => by
  simp [execOp, h1, Instr.alloc, r1, newVar, newRow, newObj, Sem.run]
 have hrun2 : ∀ (ac : Act) (w : World), (execOp ac.eval o').run P w = .ok (.value (.pointer (some ⟨w.heap.size, 0, none⟩))) (w.alloc (.cells z2.cells t2)) := fun ac w => by
  simp [execOp, h2, Instr.alloc, r2, newVar, newRow, newObj, Sem.run]
 have op1 : ∀ (ac : Act) (w : World) (Kr : Act → World → Prop), Kr (ac.put (some d1) (.pointer (some ⟨w.heap.size, 0, none⟩))) (w.alloc (.cells z1.cells t1)) → wpOp P ol.toArray (iv Q) i Kr ac w := fun ac w Kr hk => by
  unfold wpOp
  simp only [ho]
  rw [if_pos (by simp [Region.wanted, hg1])]
  refine .inl ?_
  unfold Oper.wp
  rw [hrun1]
  simpa [Oper.upon, hd1] using hk
 have op2 : ∀ (ac : Act) (w : World) (Kr : Act → World → Prop), Kr (ac.put (some d2) (.pointer (some ⟨w.heap.size, 0, none⟩))) (w.alloc (.cells z2.cells t2)) → wpOp P ol.toArray (iv Q) j Kr ac w := fun ac w Kr hk => by
  unfold wpOp
  simp only [ho']
  rw [if_pos (by simp [Region.wanted, hg2])]
  refine .inl ?_
  unfold Oper.wp
  rw [hrun2]
  simpa [Oper.upon, hd2] using hk
 have fin : ∀ w2 a2, (∃ E', Ev E1 w1 E' w2 ∧ Sim E' w2 { st with r := (d2, .box (st.nx + 1) 0 0) :: (d1, .box st.nx 0 0) :: st.r, G := bc (bc st.G st.nx (.box 0 cs1)) (st.nx + 1) (.box 0 cs2), nx := st.nx + 1 + 1 } a2) → eu P ol.toArray (iv Q) (Keeps E0 (· ∈ D) w0) late Ef N π a2 w2 := fun w2 a2 hE => by
  obtain ⟨E', hev', hs'⟩ := hE
  refine h E0 w0 Q hQ E' w2 a2 (hev.trans hev') hs' fun _ n hn => ?_
  obtain ⟨k1, k2, k3⟩ := hD n hn
  obtain ⟨ob, hob⟩ := Option.isSome_iff_exists.1 k1
  have hsame := w6 (D := [n]) (st := st) (a := a) hs hev' hs' (fun m hm => by
   simp only [List.mem_cons, List.not_mem_nil, or_false] at hm
   subst hm
   exact ⟨ob, ob, hob, by simp [bc, k2, k3, hob], rfl⟩) n (by simp)
  exact hsame.1.trans (hb rfl n hn)
 refine ⟨op1 a w1 _ ⟨keep w1 _ (Nat.le_refl _), op2 _ _ _ ⟨keep _ _ (by simp), fin _ _ ?_⟩⟩, op2 a w1 _ ⟨keep w1 _ (Nat.le_refl _), op1 _ _ _ ⟨keep _ _ (by simp), fin _ _ ?_⟩⟩⟩
 ·have := t5 (w2 := (w1.alloc (.cells z1.cells t1)).alloc (.cells z2.cells t2)) (b1 := w1.heap.size) (b2 := w1.heap.size + 1) (d1 := d1) (d2 := d2) hs q1 q2 q1' q2' hne (.inl ⟨rfl, rfl, rfl⟩)
  simpa using this
 ·have := t5 (w2 := (w1.alloc (.cells z2.cells t2)).alloc (.cells z1.cells t1)) (b1 := w1.heap.size + 1) (b2 := w1.heap.size) (d1 := d1) (d2 := d2) hs q1 q2 q1' q2' hne (.inr ⟨rfl, rfl, rfl⟩)
  have hcomm : (a.put (some d2) (.pointer (some ⟨w1.heap.size, 0, none⟩))).put (some d1) (.pointer (some ⟨w1.heap.size + 1, 0, none⟩)) = (a.put (some d1) (.pointer (some ⟨w1.heap.size + 1, 0, none⟩))).put (some d2) (.pointer (some ⟨w1.heap.size, 0, none⟩)) := by
   simp only [Act.put]
   rw [Array.setIfInBounds_comm _ _ (fun e => hne e.symm)]
  simp only [World.size_alloc]
  rw [hcomm]
  exact this
end

/-! ### Small things for walks -/
theorem f5 (G : Nat → Option GObj) (n : Nat) (o : GObj) : bc G n o n = some o := by simp [bc]
theorem dg {G : Nat → Option GObj} {n m : Nat} {o : GObj} (h : m ≠ n) : bc G n o m = G m := by simp [bc, h]
def j5 (G : Nat → Option GObj) (n : Nat) : Nat → Option GObj := fun k => if k = n then none else G k
theorem jt {G : Nat → Option GObj} {n m : Nat} (h : m ≠ n) : j5 G n m = G m := by simp [j5, h]
theorem ep {P : Program} {Q : Exit → St → Prop} {st : St} {c : Code} {i n wv : Nat} {cs : List C} (h0 : st.at i = .box n 0 0) (hG : st.G n = some (.box wv cs)) (hne : cs ≠ []) (h : AW ρ P c Q { st with r := (i, .elem cs) :: st.r, G := j5 st.G n }) : AW ρ P c Q st :=
 ue2 h0 hG hne h
theorem mw {g H : Nat → Option GObj} {k : Nat} {ob : GObj} (h1 : H k = some ob) (h2 : ∀ n o, g n = some o → H n = some o) : ∀ n o, bc g k ob n = some o → H n = some o := by
 intro n o h
 simp only [bc] at h
 split at h
 ·rename_i e; subst e; rw [h1]; exact h
 ·exact h2 n o h
theorem ji {g B : Nat → Option GObj} {k m : Nat} {ob : GObj} (h1 : ∀ n o, g n = some o → B n = some o ∨ (n < m ∧ o.low m)) (hk : k < m) (ho : ob.low m) : ∀ n o, bc g k ob n = some o → B n = some o ∨ (n < m ∧ o.low m) := by
 intro n o h
 simp only [bc] at h
 split at h
 ·rename_i e; subst e; simp only [Option.some.injEq] at h; subst h; exact .inr ⟨hk, ho⟩
 ·exact h1 n o h
theorem jp {g B : Nat → Option GObj} {m : Nat} (h : ∀ n o, g n = some o → B n = some o) : ∀ n o, g n = some o → B n = some o ∨ (n < m ∧ o.low m) := fun n o ho => .inl (h n o ho)
theorem de {m : Nat} : ∀ c ∈ ([] : List C), C.low m c := by simp
theorem cv {m : Nat} {d : C} {ds : List C} (h : d.low m) (k : ∀ c ∈ ds, C.low m c) : ∀ c ∈ d :: ds, C.low m c := by
 intro c hc
 rcases List.mem_cons.1 hc with rfl | hc
 ·exact h
 ·exact k c hc
theorem fe {m : Nat} : (C.list [] .nil).low m := .list (by simp) (by simp)
theorem jn {α : Type} {l : List α} {k : Nat} {x : α} (hx : l[k]? = some x) : l.take k ++ [x] = l.take (k + 1) := by rw [List.take_add_one, hx]; rfl
theorem cn {P : Program} {Q : Exit → St → Prop} {st : St} {c : Code} (G : Nat → Option GObj) (hs : ∀ n o, G n = some o → st.G n = some o) (h : AW ρ P c Q { st with G := G }) : AW ρ P c Q st := yo (le_G hs) h
theorem b9 {P : Program} {Q : Exit → St → Prop} {st : St} {c : Code} (h : (∀ n o, st.G n = some o → n < st.nx) → AW ρ P c Q st) : AW ρ P c Q st :=
 fun E w a hs => h (fun n o ho => (hs.lowG n o ho).1) E w a hs
theorem fg {α : Type} [Enc α] {m n : Nat} (xs : List α) (h : n < m) : (C.list (xs.map cells) (.tip n)).low m :=
 .list (fun r hr c hc => by obtain ⟨x, _, rfl⟩ := List.mem_map.1 hr; exact Enc.low m x c hc) (fun k hk => by simp only [Tok.tip.injEq] at hk; omega)
theorem fh {α : Type} [Enc α] (m : Nat) (x : α) : (C.elem (cells x)).low m := .elem fun c hc => Enc.low m x c hc
theorem e9 {α : Type} [Enc α] (m : Nat) (x : α) : (C.agg (cells x)).low m := .agg fun c hc => Enc.low m x c hc
section
variable {P : Program} {o : Oper} {st : St} {K : St → Prop}
theorem di {e : TypeId} {cs : List C} [ZeroC P e cs] (ho : o.op = .alloc e) (h : K (St.put { st with G := bc st.G st.nx (.box 0 cs), nx := st.nx + 1 } o.dst (.box st.nx 0 0))) : EStep P o st K :=
 kh fun E w a hs => by
  obtain ⟨v, r1, hr, h1⟩ := ZeroC.run (P := P) (t := e) E w
  obtain ⟨E', h2, h3, h4⟩ := ubw hs e hr h1
  exact ⟨.pointer (some ⟨w.heap.size, 0, none⟩), w.alloc (.cells v.cells e), E', _, _, _, by simp [execOp, ho, Instr.alloc, r1, newVar, newRow, newObj, Sem.run], h2, h3, h4, h⟩
/-- A whole variable is written. -/
theorem c8 {t : TypeId} {ag : Bool} {sz : Nat} [Ty P t ag sz] {x y : Operand} {n wv : Nat} {cs new : List C} (ho : o.op = .store t x y) (hd : o.dst = none) (hx : evC st x = .box n 0 0) (hG : st.G n = some (.box wv cs)) (hy : ir (evC st y) = some new) (hsz : new.length = sz) (hb : cs.length = sz)
  (h : K { st with G := bc st.G n (.box (wv + 1) new) }) : EStep P o st K := by
 refine xu (t := t) ho hd hx hG hy hsz (by omega) ?_
 rw [n2 cs 0 new (by omega), List.take_zero, List.nil_append, Nat.zero_add, List.drop_eq_nil_of_le (by omega), List.append_nil]
 exact h
/-- One cell is written. -/
theorem udz {t : TypeId} [Ty P t false 1] {x y : Operand} {n off wv : Nat} {cs : List C} {c : C} (ho : o.op = .store t x y) (hd : o.dst = none) (hx : evC st x = .box n 0 off) (hG : st.G n = some (.box wv cs)) (hy : ir (evC st y) = some [c]) (hb : off < cs.length)
  (h : K { st with G := bc st.G n (.box (wv + 1) (cs.set off c)) }) : EStep P o st K :=
 xu (t := t) (sz := 1) ho hd hx hG hy rfl (by omega) h
end
end Go.AB
namespace Go.AB
open Go
open Go.AB.Enc (cells)
variable {ρ : Option Nat}

/-- What stands for a value by c stands for it by c'. -/
def Wk (c c' : C) : Prop := c'.one = c.one ∧ ∀ E w v, R E w c v → R E w c' v
theorem Wk.refl (c : C) : Wk c c := ⟨rfl, fun _ _ _ h => h⟩
theorem Wk.of_eq {c c' : C} (h : c = c') : Wk c c' := h ▸ Wk.refl c
theorem Wk.trans {a b c : C} (h : Wk a b) (k : Wk b c) : Wk a c := ⟨k.1.trans h.1, fun E w v q => k.2 E w v (h.2 E w v q)⟩
theorem Wk.tok {rows : List (List C)} {tok : Tok} : Wk (.list rows tok) (.list rows .none) :=
 ⟨rfl, fun E w v h => by cases h with | list h1 h2 h3 h4 h5 h6 h7 _ _ _ => exact .list h1 h2 h3 h4 h5 h6 h7 (by simp) (by simp) (by simp)⟩
/-- Cell by cell. -/
def Wks : List C → List C → Prop
 | [], [] => True
 | c :: cs, d :: ds => Wk c d ∧ Wks cs ds
 | _, _ => False
theorem Wks.len : ∀ {cs ds : List C}, Wks cs ds → cs.length = ds.length
 | [], [], _ => rfl
 | c :: cs, d :: ds, h => by simp [Wks.len h.2]
 | [], d :: ds, h => h.elim
 | c :: cs, [], h => h.elim
theorem Wks.get : ∀ {cs ds : List C}, Wks cs ds → ∀ (j : Nat) (d : C), ds[j]? = some d → ∃ c, cs[j]? = some c ∧ Wk c d
 | [], [], _, j, d, h => by simp at h
 | c :: cs, d :: ds, h, 0, e, he => by simp at he; exact ⟨c, by simp, he ▸ h.1⟩
 | c :: cs, d :: ds, h, j + 1, e, he => by simpa using Wks.get h.2 j e (by simpa using he)
 | [], d :: ds, h, _, _, _ => h.elim
 | c :: cs, [], h, _, _, _ => h.elim
theorem Wks.one {cs ds : List C} (h : Wks cs ds) (ho : ∀ c ∈ cs, c.one = true) : ∀ d ∈ ds, d.one = true := fun d hd => by
 obtain ⟨j, hj⟩ := List.mem_iff_getElem?.1 hd
 obtain ⟨c, hc, k⟩ := h.get j d hj
 rw [k.1]; exact ho c (List.mem_of_getElem? hc)
theorem Wk.agg {cs ds : List C} (h : Wks cs ds) : Wk (.agg cs) (.agg ds) :=
 ⟨rfl, fun E w v q => by
  cases q with
  | agg h1 h2 h3 h4 =>
   refine .agg (by rw [h1, h.len]) (h.one h2) (fun j d hd => ?_) (fun j hj => h4 j (by rw [h.len]; exact hj))
   obtain ⟨c, hc, k⟩ := h.get j d hd
   exact k.2 _ _ _ (h3 j c hc)⟩
theorem Wk.elem {cs ds : List C} (h : Wks cs ds) : Wk (.elem cs) (.elem ds) :=
 ⟨rfl, fun E w v q => by
  cases q with
  | elem h1 h2 h3 h4 =>
   refine .elem (fun e => h1 (by subst e; exact List.eq_nil_of_length_eq_zero (by rw [h.len]; rfl))) (h.one h2) (by rw [← h.len]; exact h3) (fun j d hd => ?_)
   obtain ⟨c, hc, k⟩ := h.get j d hd
   exact k.2 _ _ _ (h4 j c hc)⟩
section
variable {P : Program} {st : St}
theorem RV.wk {rv : ResultVar} {c c' : C} (h : RV P st rv c) (k : Wk c c') : RV P st rv c' := fun E w a hs => by
 obtain ⟨v, h1, h2⟩ := h E w a hs
 exact ⟨v, h1, k.2 _ _ _ h2⟩
theorem j3 {fn : Func} {r1 : ResultVar} {r c1 : C} {G : Nat → Option GObj} {nx : Nat} (hf : fn.results = #[r1]) (h1 : RV P st r1 c1) (hn : nx ≤ st.nx) (hG : ∀ n o, G n = some o → st.G n = some o) (e1 : Wk c1 r) : l5 P fn r G nx .ret st :=
 ⟨uat hf (h1.wk e1), hn, hG⟩
theorem i1 {fn : Func} {r1 r2 : ResultVar} {r s c1 c2 : C} {G : Nat → Option GObj} {nx : Nat} (hf : fn.results = #[r1, r2]) (h1 : RV P st r1 c1) (h2 : RV P st r2 c2) (hn : nx ≤ st.nx) (hG : ∀ n o, G n = some o → st.G n = some o) (e1 : Wk c1 r) (e2 : Wk c2 s) : l5 P fn (.tup [r, s]) G nx .ret st :=
 ⟨uas hf (h1.wk e1) (h2.wk e2), hn, hG⟩
end
section
variable {P : Program} {Q : Exit → St → Prop} {st : St}
/-- A variable's cells, read more weakly. -/
theorem qv {c : Code} (n wv : Nat) {cs : List C} (ds : List C) (hG : st.G n = some (.box wv cs)) (hw : Wks cs ds) (h : AW ρ P c Q { st with G := bc st.G n (.box wv ds) }) : AW ρ P c Q st := by
 intro E w a hs
 obtain ⟨b, us, tt, hT, hh, hone, hr, hL⟩ := hs.g.obj n _ hG
 refine h E w a ⟨hs.d, hs.sz, hs.t, ⟨hs.g.nx, fun k o ho => ?_, hs.g.lt, hs.g.tb, hs.g.ap, hs.g.fresh, hs.g.base⟩⟩
 simp only [bc] at ho
 split at ho
 ·rename_i ek
  subst ek
  simp only [Option.some.injEq] at ho
  subst ho
  refine ⟨b, us, tt, hT, hh, hw.one hone, ⟨by rw [hr.1, hw.len], fun j c v hc hv => ?_⟩, hL⟩
  obtain ⟨c', hc', k⟩ := hw.get j c hc
  exact k.2 _ _ _ (hr.2 j c' v hc' hv)
 ·exact hs.g.obj k o ho
end
theorem uaf {st st' : St} : oy [] st st' := fun n h => absurd h (by simp)
theorem uag {st st' : St} {D : List Nat} {n : Nat} {o o' : GObj} (h1 : st.G n = some o) (h2 : st'.G n = some o') (h3 : stamp o = stamp o') (h : oy D st st') : oy (n :: D) st st' := fun m hm => by
 rcases List.mem_cons.1 hm with rfl | hm
 ·exact ⟨_, _, h1, h2, h3⟩
 ·exact h m hm
end Go.AB
namespace Go.AB
open Go Go.RowKit
open Go.AB.Enc (cells)
variable {ρ : Option Nat}

theorem fb {m i : Nat} {cs : List C} {d : C} (h : ∀ c ∈ cs, C.low m c) (k : d.low m) : ∀ c ∈ cs.set i d, C.low m c := fun c hc => by
 rcases List.mem_or_eq_of_mem_set hc with hc | rfl
 ·exact h c hc
 ·exact k
theorem ct (k : Nat) : (k : Int) + 1 = ((k + 1 : Nat) : Int) := rfl
section
variable {P : Program} {o : Oper} {st : St} {K : St → Prop}
theorem dh {t : TypeId} [Ty P t false 1] {x y : Operand} {n off wv : Nat} {cs : List C} {c : C} (ho : o.op = .store t x y) (hd : o.dst = none) (hx : evC st x = .box n 0 off) (hG : st.G n = some (.box wv cs)) (hy : Is (evC st y) c) (hc : ir c = some [c]) (hb : off < cs.length)
  (h : K { st with G := bc st.G n (.box (wv + 1) (cs.set off c)) }) : EStep P o st K :=
 udz ho hd hx hG (by rw [hy.eq]; exact hc) hb h
theorem cd {t : TypeId} {x : Operand} {n len : Nat} {e : TypeId} [Elt P t e] (ho : o.op = .call { callee := .builtin .len, args := #[x], argTypes := #[t] }) (hx : evC st x = .arr n len) : NStep P o st (.v (.int .i64 len)) := fun E w a hs => by
 have hr := hx ▸ hs.ev x
 generalize hv : a.eval x = v at hr
 cases hr with
 | arr h1 h2 h3 h4 =>
 refine ⟨_, .v (jf (by unfold maxLen at h3; omega)), fun w' => ?_⟩
 have := Elt.spec (P := P) (t := t) (e := e)
 simp [execOp, ho, resolve, invoke, builtin, Builtin.len_, run_underlying this, hv, goInt]

theorem ubz {t : TypeId} {x i : Operand} {m len : Nat} {e : TypeId} {ik : IntKind} {n : Int} {k sz : Nat} {ag : Bool} [Elt P t e] [Ty P e ag sz] (ho : o.op = .indexAddr t x i) (hx : evC st x = .arr m len) (hi : evC st i = .v (.int ik n)) (hn : n = (k : Int)) (hk : k < len) : NStep P o st (.box m 0 (k * sz)) := fun E w a hs => by
 subst hn
 have hr := hx ▸ hs.ev x
 have e1 := (hi ▸ hs.ev i).v_inv
 generalize hv : a.eval x = v at hr
 cases hr with
 | @arr _ _ b cap h1 h2 h3 h4 =>
 refine ⟨.pointer (some ⟨b, k * sz, none⟩), .box h1 h4, fun w' => ?_⟩
 have q1 := Elt.spec (P := P) (t := t) (e := e)
 have q2 := Ty.size (P := P) (w := w') (t := e) (ag := ag) (n := sz)
 have q3 : (k : Int) < (len : Int) := by omega
 simp [execOp, ho, Instr.indexAt, hv, e1, asIntOf, run_underlying q1, q2, q3, lz]
 intro h; omega
theorem cr {t : TypeId} {x i : Operand} {m len : Nat} {e : TypeId} {ik : IntKind} {n : Int} {k : Nat} [Elt P t e] [Ty P e false 1] (ho : o.op = .indexAddr t x i) (hx : evC st x = .arr m len) (hi : evC st i = .v (.int ik n)) (hn : n = (k : Int)) (hk : k < len) : NStep P o st (.box m 0 k) := by
 have := ubz (P := P) (o := o) (st := st) (e := e) (ag := false) (sz := 1) ho hx hi hn hk
 rwa [Nat.mul_one] at this

end

section
variable {P : Program} {Q : Exit → St → Prop} {st : St}
/-- A variable's cells are laid. -/
theorem uei {E : Env} {w : World} {a : Act} (hs : Sim E w st a) {n wv : Nat} {cs : List C} (hG : st.G n = some (.box wv cs)) :
  ∃ E' b, Ev E w E' w ∧ SimG E' w (j5 st.G n) st.nx ∧ E'.T = E.T ∧ E.T n = some (0, wv, .pointer (some ⟨b, 0, none⟩)) ∧ (∀ c ∈ cs, c.one = true) ∧ ∃ us : Nat → Value, (0 + cs.length ≤ E'.L b ∧ ∀ j, j < cs.length → w.cell? ⟨b, 0 + j, none⟩ = some (us j)) ∧ ∀ j c, cs[j]? = some c → R E' w c (us j) := by
 obtain ⟨b, us, tt, hT, hh, hone, hr, hL⟩ := hs.g.obj n _ hG
 have hbn := hs.g.tb n _ _ _ b hT rfl
 have hlen := hr.1
 simp only [Array.length_toList] at hlen
 have hE : Ev E w { E with L := fun k => if k = b then us.size else E.L k } w := by
  refine ⟨Below.refl _ _, rfl, fun k => ?_, fun _ _ _ => rfl, Nat.le_refl _, fun n _ ver wv val h => ⟨ver, wv, val, h, Nat.le_refl _, fun _ => ⟨rfl, fun _ _ _ => rfl⟩⟩, fun n ver wv wv' val h h' _ => by rw [show ({ E with L := fun k => if k = b then us.size else E.L k } : Env).T = E.T from rfl, h] at h'; simp at h'; omega, ?_⟩
  ·show E.L k ≤ if k = b then us.size else E.L k
   split
   ·rename_i e; subst e; rw [hL]; exact Nat.zero_le _
   ·exact Nat.le_refl _
  ·refine ⟨rfl, fun k hk => ?_, fun _ _ h _ => h, fun _ o h => ⟨o, h, rfl⟩, fun _ t _ _ h k _ => ⟨t, h, k⟩, fun n t t' _ _ h1 h2 hv _ => by rw [show ({ E with L := fun k => if k = b then us.size else E.L k } : Env).T = E.T from rfl, h1] at h2; cases h2; omega⟩
   have hk' : E.L k < if k = b then us.size else E.L k := hk
   split at hk'
   ·rename_i e
    subst e
    exact ⟨us[0], by simp [World.cell?, hh, show 0 < us.size by omega]⟩
   ·omega
 have hrE := hr.ev hE
 refine ⟨_, b, hE, ⟨hs.g.nx, fun k o ho => ?_, hs.g.lt, hs.g.tb, hs.g.ap, fun k hk => ?_, hs.g.base⟩, rfl, hT, hone, fun j => us.toList.getD j undef, ⟨?_, fun j hj => ?_⟩, hrE.us.1⟩
 ·have hkn : k ≠ n := fun e => by subst e; simp [j5] at ho
  rw [jt hkn] at ho
  refine (hs.g.obj k o ho).keep hE rfl fun ver wv val b' h1 h2 => ⟨rfl, ?_⟩
  have hne : b' ≠ b := fun e => by subst e; exact hs.g.ap k n _ _ b' h1 hT hkn h2 rfl
  show (if b' = b then us.size else E.L b') = E.L b'
  rw [if_neg hne]
 ·show (if k = b then us.size else E.L k) = 0
  rw [if_neg (by omega)]
  exact hs.g.fresh k hk
 ·show 0 + cs.length ≤ if b = b then us.size else E.L b
  rw [if_pos rfl]; omega
 ·rw [Nat.zero_add]
  refine jw hh ?_
  rw [← Array.getElem?_toList]
  exact hrE.us.2 j hj

end
end Go.AB
namespace Go.AB
open Go Go.RowKit
open Go.AB.Enc (cells)
variable {ρ : Option Nat}
section
variable {P : Program} {Q : Exit → St → Prop} {st : St}
theorem ube {E : Env} {w : World} {v : Value} {nx : Nat} (hnx : E.nx = nx) (hp : R E w (.list [] .nil) v) : R (E.name (.slice none 0 0)) w (.own nx 0 0) v := by
  obtain ⟨as1, cap, s, us, rfl, h1, h2, _, _, _, _, _, z1, _⟩ := hp.list_inv
  obtain ⟨rfl, rfl⟩ := z1 rfl
  refine R.own (by simp [Env.name]; omega) (Nat.le_refl _) (Nat.zero_le _) fun ver wv val ht => ?_
  simp only [Env.name] at ht
  rw [if_pos (by omega)] at ht
  simp only [Option.some.injEq, Prod.mk.injEq] at ht
  obtain ⟨rfl, rfl, rfl⟩ := ht
  exact ⟨Nat.le_refl _, fun _ => ⟨_, Nat.le_refl _, rfl⟩⟩
theorem ubf {E : Env} {w : World} {G : Nat → Option GObj} {nx : Nat} (hg : SimG E w G nx) (e : TypeId) {sz : Nat} (hsz : 1 ≤ sz) : Ev E w (E.name (.slice none 0 0)) w ∧ SimG (E.name (.slice none 0 0)) w (bc G nx (.arr 0 0 e sz 0 [])) (nx + 1) :=
  ⟨Ev.name hg (.slice none 0 0) (fun b o hb _ => by simp [blk] at hb),
   SimG.name hg (.slice none 0 0) (.arr 0 0 e sz 0 []) (fun b hb => by simp [blk] at hb) ⟨.slice none 0 0, [], by simp [Env.name, hg.nx], World.ownsRow_nil _ _ _ _, by simp, Rs.nil, fun b hb => by simp [blk] at hb, hsz⟩⟩
/-- A nil slice gets a name: it may grow and be written. -/
theorem yp {c : Code} (i : Nat) (e : TypeId) (sz : Nat) (h0 : st.at i = .list [] .nil) (hsz : 1 ≤ sz) (h : AW ρ P c Q { st with r := (i, .own st.nx 0 0) :: st.r, G := bc st.G st.nx (.arr 0 0 e sz 0 []), nx := st.nx + 1 }) : AW ρ P c Q st := by
  intro E w a hs
  obtain ⟨hev, hg⟩ := ubf hs.g e hsz
  have hp := hs.at i
  rw [h0] at hp
  have hs2 := hs.evd hev hg
  refine gd (fun _ _ _ hq => kp hev hq) (h _ w a ⟨hs.d.ev hev, hs.sz, fun j v hj => ?_, hg⟩)
  simp only [cq]
  cases hb : Nat.beq i j
  · exact hs2.t j v hj
  · have hij := Nat.eq_of_beq_eq_true hb
    subst hij
    have hv : a.tmps.getD i undef = v := by rw [Array.getD_eq_getD_getElem?, hj]; rfl
    rw [hv] at hp
    exact ube hs.g.nx hp
end

section
variable {P : Program} {o : Oper} {st : St} {K : St → Prop}
theorem n5 {E : Env} {w : World} {v val : Value} {n ver wv len : Nat} (hp : R E w (.own n ver len) v) (hT : E.T n = some (ver, wv, val)) {B sz : Nat} {tt : TypeId} {us : List Value} {w0 : World} (how : w0.ownsRow B tt sz val len us) : v = val ∧ n < E.nx ∧ ∃ a cap, v = .slice a len cap ∧ len ≤ cap ∧ cap ≤ maxLen := by
  cases hp with
  | own h1 h2 h3 h4 =>
    obtain ⟨m, h5, h6⟩ := (h4 _ _ _ hT).2 rfl
    subst h6
    have : m = len := by
      rcases how.2 with ⟨e, e0⟩ | ⟨g, cap, cur, e, _⟩
      · simp only [Value.slice.injEq] at e; omega
      · simp only [Value.slice.injEq] at e; exact e.2.1
    subst this
    exact ⟨rfl, h1, _, _, rfl, h2, h3⟩
/-- .. or what is ahead of some of it. -/
theorem ubd {E : Env} {w : World} {v val : Value} {n ver wv len : Nat} (hp : R E w (.own n ver len) v) (hT : E.T n = some (ver, wv, val)) : ∃ a m cap, v = .slice a len cap ∧ val = .slice a m cap ∧ len ≤ m ∧ n < E.nx ∧ len ≤ cap ∧ cap ≤ maxLen := by
  cases hp with
  | own h1 h2 h3 h4 =>
    obtain ⟨m, h5, h6⟩ := (h4 _ _ _ hT).2 rfl
    exact ⟨_, m, _, rfl, h6, h5, h1, h2, h3⟩
/-- append onto an own slice. -/
theorem ud5 {t e : TypeId} {sz bytes n ver wv m : Nat} [AppT P t e sz bytes] {s x : Operand} {tk : Tok} {cs : List C} {ys : List (List C)} (ho : o.op = .call { callee := .builtin .append, args := #[s, x], argTypes := #[t, t] }) (hs : evC st s = .own n ver m) (hG : st.G n = some (.arr ver wv e sz m cs)) (hx : evC st x = .list ys tk) (hsz : ∀ r ∈ ys, r.length = sz) (hb : (m + ys.length) * bytes ≤ 140737488355328) (hm : m + ys.length ≤ 9223372036854775807) (hy : ys ≠ [])
    (h : K (St.put { st with G := bc st.G n (.arr (ver + 1) wv e sz (m + ys.length) (cs ++ ys.flatten)) } o.dst (.own n (ver + 1) (m + ys.length)))) : EStep P o st K :=
  kh fun E w a hsim => by
    obtain ⟨ht, i, z, hie, hz, h1, h2, h3⟩ := AppT.spec (P := P) (t := t) (e := e) (sz := sz) (bytes := bytes)
    obtain ⟨val, us, hT, hown, hcone, hrs, hL, hsz1⟩ := hsim.g.obj n _ hG
    obtain ⟨e1, q1, as1, cap, e2, h6, h7⟩ := n5 (hs ▸ hsim.ev s) hT hown
    obtain ⟨ao, c, news, e3, hl, hnews, hr, hone, h1c⟩ := td (hx ▸ hsim.ev x) hsz
    subst h1; subst h2
    obtain ⟨v', w', hrun, hown', hgr, hne, heq⟩ := ui (P := P) w E.B t o.type e i z ht hie hz h3 val m us hown ao ys.length c news hl hnews h1c (by unfold maxLen; omega) hb hsim.g.base
    have hexec : (execOp a.eval o).run P w = .ok (.value v') w' := by
      simp only [execOp, ho, resolve, invoke, builtin, Sem.run_bind, Sem.run_pure, Result.andThen_ok, List.map_toArray, List.map_cons, List.map_nil, e1, e3]
      rw [hrun]; rfl
    have hy0 : ys.length ≠ 0 := fun e => hy (List.eq_nil_of_length_eq_zero e)
    obtain ⟨g, cap', rfl⟩ := hne hy0
    have hcellsg : ∃ o, w'.heap[g]? = some o ∧ o.isCells = true := by
      rcases hown'.2 with ⟨e, _⟩ | ⟨g', cap, cur, e, _, hh, _⟩
      · cases e
      · simp only [Value.slice.injEq, Option.some.injEq, Addr.mk.injEq] at e
        obtain ⟨⟨rfl, _⟩, _⟩ := e
        exact ⟨_, hh, rfl⟩
    have hchg : Chg E w w' ver wv val (ver + 1) wv (.slice (some ⟨g, 0, none⟩) (m + ys.length) cap') 0 := by
      have hgb : w.grownBy w' (blk val) := by
        rcases hgr with ⟨_, h⟩ | ⟨_, h⟩
        · exact h
        · exact ⟨h.os, h.tape, h.output, h.size, fun k hk _ => h.block k hk (by simp)⟩
      refine ⟨⟨hgb.os, hgb.tape, hgb.output, hgb.size, fun k hk => hgb.block k (Nat.lt_of_lt_of_le hk hsim.g.base) fun e => ?_⟩, fun k hk hne => hgb.block k hk (fun e => hne e.symm), fun b hb => ?_, fun b j hb hj => ?_, .inl (by omega), fun b o hb ho => ?_, fun _ b hb => ?_, fun b hb h0 => absurd h0 (Nat.not_lt_zero _)⟩
      · have := (hsim.g.tb n _ _ _ k hT e.symm).1; omega
      · simp only [blk, Option.some.injEq] at hb
        subst hb
        rcases hgr with ⟨h, _⟩ | ⟨h, _⟩
        · left
          exact ⟨h.symm, by rw [hL g h.symm]; exact Nat.le_refl _⟩
        · right
          simp only [blk, Option.some.injEq] at h
          subst h
          obtain ⟨_, _, _, _, hlt⟩ := n4 hown' (b := w.heap.size) rfl
          exact ⟨Nat.le_refl _, hlt⟩
      · rw [hL b hb] at hj; omega
      · rcases hown.2 with ⟨e, _⟩ | ⟨g', cap, cur, e, _, hh, _⟩
        · rw [e] at hb; simp [blk] at hb
        · rw [e] at hb
          simp only [blk, Option.some.injEq] at hb
          subst hb
          rw [hh] at ho; cases ho
          rcases hgr with ⟨h, _⟩ | ⟨_, h⟩
          · have hbg : g' = g := by rw [e] at h; simp only [blk, Option.some.injEq] at h; exact h.symm
            subst hbg
            exact hcellsg
          · have hlt := (Array.getElem?_eq_some_iff.1 hh).1
            exact ⟨_, (h.block g' hlt (by simp)).trans hh, rfl⟩
      · simp only [blk, Option.some.injEq] at hb
        subst hb
        exact hcellsg
    have hev := Ev.chg hsim.g hT hchg
    obtain ⟨cap2, hc2, hc3, hc4, _⟩ := n4 hown' (b := g) rfl
    simp only [Value.slice.injEq, true_and] at hc2
    subst hc2
    have hobj : ObjOk (E.chg n (ver + 1, wv, .slice (some ⟨g, 0, none⟩) (m + ys.length) cap') 0) w' n (.arr (ver + 1) wv e i.size (m + ys.length) (cs ++ ys.flatten)) := by
      refine ⟨_, us ++ news, by simp [Env.chg], hown', fun d hd => ?_, (hrs.ev hev).append (hr.ev hev), fun b hb => ?_, hsz1⟩
      · rcases List.mem_append.1 hd with hd | hd
        · exact hcone d hd
        · obtain ⟨r, hr1, hr2⟩ := List.mem_flatten.1 hd
          exact hone r hr1 d hr2
      · simp only [blk, Option.some.injEq] at hb
        subst hb
        simp [Env.chg, blk]
    refine ⟨_, w', _, _, st.nx, .own n (ver + 1) (m + ys.length), hexec, hev, ?_, SimG.chg hsim.g hT hchg hobj, h⟩
    refine .own q1 hc3 hc4 fun ver' wv' val' ht => ?_
    simp only [Env.chg, if_true, Option.some.injEq, Prod.mk.injEq] at ht
    obtain ⟨rfl, rfl, rfl⟩ := ht
    exact ⟨Nat.le_refl _, fun _ => ⟨_, Nat.le_refl _, rfl⟩⟩
/-- A list's cells, one behind the other. -/
def cy {α : Type} [Enc α] (xs : List α) : List C := (xs.map cells).flatten
theorem kg {α : Type} [Enc α] (xs ys : List α) : cy (xs ++ ys) = cy xs ++ cy ys := by simp [cy]
theorem j2 {α : Type} [Enc α] (xs : List α) : (cy xs).length = xs.length * Enc.n α := by
  unfold cy; rw [i0 (i5 xs), List.length_map]
theorem ay {α : Type} [Enc α] {xs : List α} {k j : Nat} {x : α} {c : C} (hx : xs[k]? = some x) (hj : (cells x)[j]? = some c) : (cy xs)[k * Enc.n α + j]? = some c := oq (i5 xs) (bm hx) hj
theorem ey {α : Type} [Enc α] {m : Nat} (xs : List α) : ∀ c ∈ cy xs, C.low m c := fun c hc => by
  obtain ⟨r, hr, hc⟩ := List.mem_flatten.1 hc
  obtain ⟨x, _, rfl⟩ := List.mem_map.1 hr
  exact Enc.low m x c hc
theorem udp {α : Type} [Enc α] {xs : List α} {k : Nat} {x : α} (hx : xs[k]? = some x) : ((cy xs).drop (k * Enc.n α)).take (Enc.n α) = cells x := by
  apply List.ext_getElem?
  intro j
  rw [List.getElem?_take]
  by_cases hj : j < Enc.n α
  · rw [if_pos hj, List.getElem?_drop, ay hx (List.getElem?_eq_getElem (by rw [Enc.len]; exact hj)), List.getElem?_eq_getElem]
  · rw [if_neg hj, List.getElem?_eq_none (by rw [Enc.len]; omega)]
theorem xk {α : Type} [Enc α] {xs : List α} {k : Nat} {x : α} (hx : xs[k]? = some x) : cy xs = cy (xs.take k) ++ (cells x ++ cy (xs.drop (k + 1))) ∧ (cy (xs.take k)).length = k * Enc.n α := by
  have hlt := (List.getElem?_eq_some_iff.1 hx).1
  refine ⟨?_, by rw [j2, List.length_take, Nat.min_eq_left (Nat.le_of_lt hlt)]⟩
  have e : xs = xs.take k ++ (x :: xs.drop (k + 1)) := by
    have h1 := (List.getElem?_eq_some_iff.1 hx).2
    rw [← h1, List.getElem_cons_drop, List.take_append_drop]
  conv => lhs; rw [e]
  rw [kg]
  simp [cy]
theorem udo {α : Type} [Enc α] {xs : List α} {k j : Nat} {x y : α} {c : C} (hx : xs[k]? = some x) (hj : j < Enc.n α) (hc : (cells x).set j c = cells y) : (cy xs).set (k * Enc.n α + j) c = cy (xs.set k y) := by
  have hlt := (List.getElem?_eq_some_iff.1 hx).1
  obtain ⟨e1, l1⟩ := xk hx
  obtain ⟨e2, l2⟩ := xk (xs := xs.set k y) (k := k) (x := y) (by rw [List.getElem?_set_self hlt])
  rw [e2, List.take_set_of_le (Nat.le_refl _), List.drop_set_of_lt (by omega), e1]
  rw [List.set_append_right _ _ (by omega), l1, show k * Enc.n α + j - k * Enc.n α = j by omega, List.set_append_left _ _ (by rw [Enc.len]; exact hj), hc]
theorem cb {t : TypeId} {x : Operand} {n ver len : Nat} {e : TypeId} [Elt P t e] (ho : o.op = .call { callee := .builtin .len, args := #[x], argTypes := #[t] }) (hx : evC st x = .own n ver len) : NStep P o st (.v (.int .i64 len)) := fun E w a hs => by
  have hp := hx ▸ hs.ev x
  have h1 := Elt.spec (P := P) (t := t) (e := e)
  generalize hv : a.eval x = v at hp
  cases hp with
  | own q1 q2 q3 q4 =>
    have hm : maxLen = 9223372036854775807 := rfl
    refine ⟨_, .v (jf (by omega)), fun w' => ?_⟩
    simp [execOp, ho, hv, resolve, invoke, builtin, Builtin.len_, run_underlying h1, goInt]
theorem kn {t : TypeId} {x i : Operand} {m ver len : Nat} {e : TypeId} {ik : IntKind} {n : Int} {k sz wv : Nat} {ag : Bool} {tt : TypeId} {esz : Nat} {cs : List C} [Elt P t e] [Ty P e ag sz] (ho : o.op = .indexAddr t x i) (hx : evC st x = .own m ver len) (hG : st.G m = some (.arr ver wv tt esz len cs)) (hi : evC st i = .v (.int ik n)) (hn : n = (k : Int)) (hk : k < len) : NStep P o st (.box m ver (k * sz)) := fun E w a hs => by
  subst hn
  obtain ⟨val, us, hT, hown, hcone, hrs, hL, hsz1⟩ := hs.g.obj m _ hG
  have hp := hx ▸ hs.ev x
  obtain ⟨e1, q1, as1, cap, e2, h6, h7⟩ := n5 hp hT hown
  have h2 := (hi ▸ hs.ev i).v_inv
  obtain ⟨b, hb⟩ : ∃ b, as1 = some ⟨b, 0, none⟩ := by
    rcases hown.2 with ⟨e, e0⟩ | ⟨g, cap, cur, e, _⟩
    · omega
    · rw [← e1, e2] at e
      simp only [Value.slice.injEq] at e
      exact ⟨g, e.1⟩
  subst hb
  have h1 := Elt.spec (P := P) (t := t) (e := e)
  have h3 := fun w => Ty.size (P := P) (w := w) (t := e) (ag := ag) (n := sz)
  refine ⟨.pointer (some ⟨b, k * sz, none⟩), .box q1 fun ver' wv' val' ht => ?_, fun w' => ?_⟩
  · rw [hT] at ht
    simp only [Option.some.injEq, Prod.mk.injEq] at ht
    obtain ⟨rfl, rfl, rfl⟩ := ht
    exact ⟨Nat.le_refl _, fun _ => by rw [← e1, e2]; rfl⟩
  · have q3 : (k : Int) < (len : Int) := by omega
    simp [execOp, ho, h2, e2, Instr.indexAt, run_underlying h1, h3, asIntOf, q3, lz]
    intro h; omega

/-- A place in an own slice. -/
theorem r8 {E : Env} {w : World} {n ver off wv esz len : Nat} {tt : TypeId} {cs : List C} {p : Value} (hp : R E w (.box n ver off) p) (hG : ObjOk E w n (.arr ver wv tt esz len cs)) (hlt : 0 < cs.length) :
    ∃ g cap cur, p = .pointer (some ⟨g, off, none⟩) ∧ E.T n = some (ver, wv, .slice (some ⟨g, 0, none⟩) len cap) ∧ E.B ≤ g ∧ w.heap[g]? = some (.cells cur tt (0, 0)) ∧ len ≤ cap ∧ cap ≤ maxLen ∧ cur.size = cap * esz ∧ cs.length = len * esz ∧ Rs E w cs (cur.toList.take (len * esz)) ∧ (∀ c ∈ cs, c.one = true) ∧ E.L g = 0 ∧ 1 ≤ esz := by
  obtain ⟨val, us, hT, hown, hcone, hrs, hL, hsz1⟩ := hG
  rcases hown.2 with ⟨e, e0⟩ | ⟨g, cap, cur, e, h1, h2, h3, h4, h5, h6⟩
  · have := hrs.1
    rw [hown.1, e0] at this
    omega
  · subst e
    cases hp with
    | box q1 q2 =>
      have := (q2 _ _ _ hT).2 rfl
      simp only [blk, Option.some.injEq] at this
      subst this
      exact ⟨g, cap, cur, rfl, hT, h1, h2, h3, h4, h5, by rw [← hrs.1, hown.1], h6 ▸ hrs, hcone, hL g rfl, hsz1⟩
theorem ai {D : Nat → Prop} {t : TypeId} [Ty P t false 1] {x : Operand} {n ver off wv esz len : Nat} {tt : TypeId} {cs : List C} {c : C} (ho : o.op = .load t x) (hx : evC st x = .box n ver off) (hG : st.G n = some (.arr ver wv tt esz len cs)) (hD : D n) (hc : cs[off]? = some c) : SStep P D o st c := fun E w a hs => by
  have hlt := (List.getElem?_eq_some_iff.1 hc).1
  obtain ⟨g, cap, cur, hv, hT, hB, hh, h1, h2, h3, h4, hr, hone, hL, h5⟩ := r8 (hx ▸ hs.ev x) (hs.g.obj n _ hG) (by omega)
  have hl : off < (cur.toList.take (len * esz)).length := by rw [hr.1]; exact hlt
  refine ⟨(cur.toList.take (len * esz))[off], hr.2 off c _ hc (List.getElem?_eq_getElem hl), fun w' hk => ?_⟩
  have h6 := hk.2 n hD _ _ _ g hT rfl
  have h7 : w'.cell? ⟨g, off, none⟩ = some (cur.toList.take (len * esz))[off] := jw (h6.trans hh) (by
    have := List.getElem?_eq_getElem hl
    rw [List.getElem?_take, if_pos (by omega)] at this
    rw [← Array.getElem?_toList]; exact this)
  simp [execOp, ho, hv, rn (P := P) (t := t) h7]
theorem uai {D : Nat → Prop} {t : TypeId} {sz : Nat} [Ty P t true sz] {x : Operand} {n ver off wv esz len : Nat} {tt : TypeId} {cs : List C} (ho : o.op = .load t x) (hx : evC st x = .box n ver off) (hG : st.G n = some (.arr ver wv tt esz len cs)) (hD : D n) (hc : off + sz ≤ cs.length) (h0 : 1 ≤ sz) : SStep P D o st (.agg ((cs.drop off).take sz)) := fun E w a hs => by
  obtain ⟨g, cap, cur, hv, hT, hB, hh, h1, h2, h3, h4, hr, hone, hL, h5⟩ := r8 (hx ▸ hs.ev x) (hs.g.obj n _ hG) (by omega)
  have hr2 := (hr.dropn off).take sz
  refine ⟨.agg (((cur.toList.take (len * esz)).drop off).take sz).toArray, hr2.agg (fun c hc => hone c (List.mem_of_mem_drop (List.mem_of_mem_take hc))), fun w' hk => ?_⟩
  have h6 := hk.2 n hD _ _ _ g hT rfl
  have hrun := nv (P := P) (t := t) (n := sz) (b := g) (off := off) (us := ((cur.toList.take (len * esz)).drop off).take sz) (w' := w') (by rw [hr2.1]; simp; omega) fun j v hj => by
    rw [List.getElem?_take] at hj
    split at hj
    · rw [List.getElem?_drop, List.getElem?_take] at hj
      split at hj
      · exact jw (h6.trans hh) (by rw [← Array.getElem?_toList]; exact hj)
      · cases hj
    · cases hj
  simp only [execOp, ho, hv, Sem.run_bind, hrun, Result.andThen_ok]
  rfl
/-- A whole element. -/
theorem a9 {α : Type} [Enc α] {D : Nat → Prop} {t : TypeId} [Ty P t true (Enc.n α)] {x : Operand} {n ver off wv esz len k : Nat} {tt : TypeId} {xs : List α} {y : α} {cs : List C} (ho : o.op = .load t x) (hx : evC st x = .box n ver off) (hG : st.G n = some (.arr ver wv tt esz len cs)) (hD : D n) (hcs : cs = cy xs) (hy : xs[k]? = some y) (hoff : off = k * Enc.n α) (h0 : 1 ≤ Enc.n α) : SStep P D o st (.agg (cells y)) := by
  subst hcs; subst hoff
  have hlt := (List.getElem?_eq_some_iff.1 hy).1
  have hm : (k + 1) * Enc.n α ≤ xs.length * Enc.n α := Nat.mul_le_mul_right _ hlt
  rw [Nat.add_mul] at hm
  have := uai (P := P) (D := D) (o := o) (st := st) (t := t) ho hx hG hD (by rw [j2]; omega) h0
  rwa [udp hy] at this
/-- What the run of a store into an own slice leaves. -/
theorem z7 {E : Env} {w : World} {a : Act} (hs : Sim E w st a) {t : TypeId} {ag : Bool} {sz : Nat} [Ty P t ag sz] {n ver off wv esz len : Nat} {tt : TypeId} {cs new : List C} {p v : Value} (hp : R E w (.box n ver off) p) (hG : st.G n = some (.arr ver wv tt esz len cs)) (hv : Rs E w new v.cells.toList) (h1 : ∀ c ∈ new, c.one = true) (hsz : new.length = sz) (hb : off + sz ≤ cs.length) (h0 : 1 ≤ sz) :
    ∃ w' E', (Instr.storeAt t p v).run P w = .ok () w' ∧ Ev E w E' w' ∧ SimG E' w' (bc st.G n (.arr ver (wv + 1) tt esz len (putAt cs off new))) st.nx := by
  obtain ⟨g, cap, cur, rfl, hT, hB, hh, k1, k2, k3, k4, hr, hone, hL, k5⟩ := r8 hp (hs.g.obj n _ hG) (by omega)
  have hvl := hv.1
  simp only [Array.length_toList] at hvl
  have h2 := Ty.size (P := P) (w := w) (t := t) (ag := ag) (n := sz)
  have hmul : len * esz ≤ cap * esz := Nat.mul_le_mul_right _ k1
  have hst := run_storeCells_at (P := P) g off tt v.cells.toList 0 cur w hh (by simp; omega) (hv.oneCell h1)
  have hrun : (Instr.storeAt t (.pointer (some ⟨g, off, none⟩)) v).run P w = .ok () (w.setRow g (cur.toList.take (off + 0) ++ v.cells.toList ++ cur.toList.drop (off + 0 + v.cells.toList.length)).toArray) := by
    simp only [Instr.storeAt, Instr.sureAddr, storeVar, Sem.run_bind, Sem.run_pure, Result.andThen_ok, h2]
    rw [if_neg (by omega)]
    exact hst
  simp only [Nat.add_zero] at hrun
  refine ⟨_, E.chg n (ver, wv + 1, .slice (some ⟨g, 0, none⟩) len cap) 0, hrun, ?_⟩
  have hchg : Chg E w (w.setRow g (cur.toList.take off ++ v.cells.toList ++ cur.toList.drop (off + v.cells.toList.length)).toArray) ver wv (.slice (some ⟨g, 0, none⟩) len cap) ver (wv + 1) (.slice (some ⟨g, 0, none⟩) len cap) 0 := by
    refine ⟨?_, fun k _ hk => setRow_other w g k _ (fun e => hk (by simp [blk, e])), fun b hb => .inl ⟨hb, ?_⟩, fun b i hb hi => ?_, .inr ⟨rfl, rfl, by omega⟩, fun b o hb ho => ?_, fun hv => absurd hv (Nat.lt_irrefl _), fun b _ hl => absurd hl (Nat.not_lt_zero _)⟩
    · exact ⟨rfl, rfl, rfl, by simp [World.setRow], fun k hk => setRow_other w g k _ (by omega)⟩
    · simp only [blk, Option.some.injEq] at hb; subst hb; omega
    · simp only [blk, Option.some.injEq] at hb; subst hb; omega
    · simp only [blk, Option.some.injEq] at hb; subst hb; rw [hh] at ho; cases ho; exact ⟨_, setRow_heap w g cur _ tt _ hh, rfl⟩
  refine ⟨Ev.chg hs.g hT hchg, SimG.chg hs.g hT hchg ?_⟩
  have hev := Ev.chg hs.g hT hchg
  have hput := (hr.ev hev).putAt (hv.ev hev) (off := off) (by omega)
  have hcut : (cur.toList.take off ++ v.cells.toList ++ cur.toList.drop (off + v.cells.toList.length)).take (len * esz) = (cur.toList.take (len * esz)).take off ++ v.cells.toList ++ (cur.toList.take (len * esz)).drop (off + v.cells.toList.length) := by
    have l1 : (cur.toList.take off).length = off := by rw [List.length_take]; simp; omega
    rw [List.take_append, List.take_append, List.take_take, List.take_take, List.drop_take, l1, List.length_append, l1]
    have e1 : min (len * esz) off = min off (len * esz) := Nat.min_comm _ _
    have e2 : v.cells.toList.take (len * esz - off) = v.cells.toList := List.take_of_length_le (by simp; omega)
    rw [e1, e2]
  refine ⟨_, _, by simp [Env.chg], ⟨?_, .inr ⟨g, cap, _, rfl, hB, setRow_heap w g cur _ tt _ hh, k1, k2, ?_, rfl⟩⟩, ?_, ?_, fun b hb => by simp only [blk, Option.some.injEq] at hb; subst hb; simp [Env.chg, blk], k5⟩
  · simp; omega
  · simp; omega
  · rw [n2 cs off new (by omega)]
    intro c hc
    rcases List.mem_append.1 hc with hc | hc
    · rcases List.mem_append.1 hc with hc | hc
      · exact hone c (List.mem_of_mem_take hc)
      · exact h1 c hc
    · exact hone c (List.mem_of_mem_drop hc)
  · simp only [List.toList_toArray]
    rw [hcut]
    exact hput
theorem udy {t : TypeId} {ag : Bool} {sz : Nat} [Ty P t ag sz] {x y : Operand} {n ver off wv esz len : Nat} {tt : TypeId} {cs new : List C} (ho : o.op = .store t x y) (hd : o.dst = none) (hx : evC st x = .box n ver off) (hG : st.G n = some (.arr ver wv tt esz len cs)) (hy : ir (evC st y) = some new) (hsz : new.length = sz) (hb : off + sz ≤ cs.length) (h0 : 1 ≤ sz)
    (h : K { st with G := bc st.G n (.arr ver (wv + 1) tt esz len (putAt cs off new)), nx := st.nx }) : EStep P o st K := fun E w a hs Kr Q hq => by
  obtain ⟨hv, h1⟩ := (hs.ev y).cells hy
  obtain ⟨w', E', hrun, hev, hg⟩ := z7 hs (P := P) (t := t) (hx ▸ hs.ev x) hG hv h1 hsz hb h0
  unfold Oper.wp
  have : (execOp a.eval o).run P w = .ok .skip w' := by simp [execOp, ho, hrun]
  rw [this]
  have h2 := hs.evd hev hg
  refine hq _ _ _ E' hev ?_ h
  simpa [Act.put, hd] using h2
/-- One cell of an element. -/
theorem udx {α : Type} [Enc α] {t : TypeId} [Ty P t false 1] {x y : Operand} {n ver off wv esz len k j : Nat} {tt : TypeId} {xs : List α} {z z' : α} {c : C} {cs : List C} (ho : o.op = .store t x y) (hd : o.dst = none) (hx : evC st x = .box n ver off) (hG : st.G n = some (.arr ver wv tt esz len cs)) (hcs : cs = cy xs) (hy : ir (evC st y) = some [c]) (hz : xs[k]? = some z) (hoff : off = k * Enc.n α + j) (hj : j < Enc.n α) (hz' : (cells z).set j c = cells z')
    (h : K { st with G := bc st.G n (.arr ver (wv + 1) tt esz len (cy (xs.set k z'))), nx := st.nx }) : EStep P o st K := by
  subst hcs; subst hoff
  have hlt := (List.getElem?_eq_some_iff.1 hz).1
  have hm : (k + 1) * Enc.n α ≤ xs.length * Enc.n α := Nat.mul_le_mul_right _ hlt
  rw [Nat.add_mul] at hm
  refine udy (sz := 1) ho hd hx hG hy rfl (by rw [j2]; omega) (Nat.le_refl _) ?_
  rw [show putAt (cy xs) (k * Enc.n α + j) [c] = cy (xs.set k z') from udo hz hj hz']
  exact h
end
end Go.AB
namespace Go.AB
open Go Go.RowKit
open Go.AB.Enc (cells)
variable {ρ : Option Nat}
section
variable {P : Program} {o : Oper} {st : St} {c c' : C} {v : Value}
theorem wx {E : Env} {w : World} {a : Act} {i n : Nat} (h : st.at i = .v v) (hG : st.G n = some (.fact v c)) (hs : Sim E w st a) : Sim E w { st with r := (i, c) :: st.r } a := by
 refine ⟨hs.d, hs.sz, fun j x hj => ?_, hs.g⟩
 simp only [cq]
 cases hb : Nat.beq i j
 ·exact hs.t j x hj
 ·have hij := Nat.eq_of_beq_eq_true hb
  subst hij
  have h1 := (h ▸ hs.at i).v_inv
  rw [Array.getD_eq_getD_getElem?, hj] at h1
  have h2 : x = v := h1
  subst h2
  exact (hs.g.obj n _ hG).2
theorem g6 (i n : Nat) (h : st.at i = .v v) (hG : st.G n = some (.fact v c)) (k : NStep P o { st with r := (i, c) :: st.r } c') : NStep P o st c' := fun E w a hs => k E w a (wx h hG hs)
theorem j7 {D : Nat → Prop} (i n : Nat) (h : st.at i = .v v) (hG : st.G n = some (.fact v c)) (k : SStep P D o { st with r := (i, c) :: st.r } c') : SStep P D o st c' := fun E w a hs => k E w a (wx h hG hs)
/-- A package's variable, of which a fact is known. -/
theorem ba {D : Nat → Prop} {t : TypeId} {x : Operand} {n m : Nat} {cs : List C} [Ty P t true n] (ho : o.op = .load t x) (hx : evC st x = .v v) (hG : st.G m = some (.fact v (.elem cs))) (hn : cs.length = n) : SStep P D o st (.agg cs) := fun E w a hs => by
 have h1 := (hx ▸ hs.ev x).v_inv
 obtain ⟨b, off, us, hv, _, hc, hr, h1c, _⟩ := (hs.g.obj m _ hG).2.elem_inv
 subst hn
 have hrs : Rs E w cs ((List.range cs.length).map us) := ⟨by simp, fun j c v hcj hv => by
  rw [List.getElem?_map] at hv
  have hlt := (List.getElem?_eq_some_iff.1 hcj).1
  rw [List.getElem?_range hlt] at hv
  simp only [Option.map_some, Option.some.injEq] at hv
  subst hv
  exact hr j c hcj⟩
 have hL := hs.g.obj m _ hG
 refine ⟨.agg ((List.range cs.length).map us).toArray, hrs.agg h1c, fun w' hk => ?_⟩
 obtain ⟨b', off', us', hv', hL', hc', _, _, _⟩ := (hs.g.obj m _ hG).2.elem_inv
 rw [hv] at hv'
 simp only [Value.pointer.injEq, Option.some.injEq, Addr.mk.injEq] at hv'
 obtain ⟨rfl, rfl, _⟩ := hv'
 have hrun := nv (P := P) (t := t) (n := cs.length) (b := b) (off := off) (us := (List.range cs.length).map us) (w' := w') (by simp) fun j u hj => by
  rw [List.getElem?_map] at hj
  by_cases hlt : j < cs.length
  ·rw [List.getElem?_range hlt] at hj
   simp only [Option.map_some, Option.some.injEq] at hj
   subst hj
   rw [hk.1 b (off + j) (by omega)]
   exact hc j hlt
  ·rw [List.getElem?_eq_none (by simp; omega)] at hj; cases hj
 simp only [execOp, ho, h1, hv, Sem.run_bind, hrun, Result.andThen_ok]
 rfl
/-- One operation by a contract under a condition on the objects. -/
theorem sv {f : FuncId} [Fun P f] {fv : Operand} {args : List Operand} {ats : Array TypeId} {caps as1 : List C} {K : St → Prop} {r : C} (ho : o.op = .call { callee := .value fv, args := args.toArray, argTypes := ats }) (hf : evC st fv = .fn (.func f) caps) (has : args.map (evC st) ++ caps = as1)
  (hp : PC P f as1 st.G st.nx fun r' G' nx' => r' = r ∧ G' = st.G ∧ nx' = st.nx) (h : K (st.put o.dst r)) : EStep P o st K :=
 sw ho hf has (hp.mono fun r' G' nx' ⟨e1, e2, e3⟩ => by subst e1; subst e2; subst e3; exact h)
end
/-- A call that leaves all as it was, where a fact is known by the first name. -/
def PureF (F : GObj) (P : Program) (f : FuncId) (args : List C) (r : C) : Prop := ∀ G nx, G 0 = some F → PC P f args G nx fun r' G' nx' => r' = r ∧ G' = G ∧ nx' = nx
/-! ### Own slices that are read by what only reads -/
/-- What bears no names stands, whatever is laid besides. -/
theorem R.to0 {E : Env} {w : World} {c : C} {v : Value} (h : R E w c v) (hl : c.low 0) {E0 : Env} (hL : ∀ b i u, w.cell? ⟨b, i, none⟩ = some u → i < E0.L b) : R E0 w c v := by
 induction h with
 | v hx => exact .v hx
 | @list rows tok a cap sz us h1 h2 h3 h4 h5 h6 _ z1 z2 h8 ih =>
  cases hl with
  | list l1 l2 =>
  refine .list h1 h2 h3 h4 h5 ?_ (fun j c hj => ih j c hj ?_) z1 z2 fun n hn => absurd (l2 n hn) (Nat.not_lt_zero _)
  ·rcases h6 with h0 | ⟨b, off, e, k1, k2⟩
   ·exact .inl h0
   ·rcases Nat.eq_zero_or_pos rows.flatten.length with h0 | h0
    ·exact .inl h0
    ·refine .inr ⟨b, off, e, ?_, k2⟩
     have := hL b _ _ (k2 (rows.flatten.length - 1) (by omega))
     omega
  ·obtain ⟨r, hr, hc⟩ := List.mem_flatten.1 (List.mem_of_getElem? hj)
   exact l1 r hr c hc
 | @elem cs b off us h1 h2 h3 _ ih =>
  cases hl with
  | elem l1 =>
  refine .elem h1 h2 ?_ fun j c hj => ih j c hj (l1 c (List.mem_of_getElem? hj))
  rcases h3 with h0 | ⟨b', off', e, k1, k2⟩
  ·exact .inl h0
  ·have h0 : 0 < cs.length := List.length_pos_iff.2 h1
   refine .inr ⟨b', off', e, ?_, k2⟩
   have := hL b' _ _ (k2 (cs.length - 1) (by omega))
   omega
 | box _ _ => cases hl with | box l => omega
 | arr _ _ _ _ => cases hl with | arr l => omega
 | own _ _ _ _ => cases hl with | own l => omega
 | fn h1 _ h3 ih => cases hl with | fn l => exact .fn h1 (fun j c hj => ih j c hj (l c (List.mem_of_getElem? hj))) h3
 | map _ _ => cases hl with | map l => omega
 | agg h1 h2 _ h4 ih => cases hl with | agg l => exact .agg h1 h2 (fun j c hj => ih j c hj (l c (List.mem_of_getElem? hj))) h4
 | tup h1 _ h3 ih => cases hl with | tup l => exact .tup h1 (fun j c hj => ih j c hj (l c (List.mem_of_getElem? hj))) h3
 | any => exact .any
end Go.AB
