/-
  Abstract cells: what is known of a value, whatever block it lies in. Rows that are laid for good ('committed') are known by what they hold.
-/
import Derived.WalkKit
import Derived.RangeFuncOwn
import Derived.Lib.Hide
namespace Go.AB
open Go Go.RowKit

/-- What may be done with a slice: nothing but reading; it has no room (and is nil); the named object is its row. -/
inductive Tok where
  | none
  | zero
  | nil
  | tip (n : Nat)

/-- What is known of a value. -/
inductive C where
  | v (x : Value)
  | list (rows : List (List C)) (tok : Tok)
  | elem (cs : List C)
  | box (n ver off : Nat)
  | arr (n len : Nat)
  | own (n ver len : Nat)
  | fn (f : Fn) (caps : List C)
  | map (n : Nat)
  | agg (cs : List C)
  | tup (cs : List C)
  | any

def C.one : C → Bool
  | .agg _ | .tup _ | .any => false
  | _ => true

def loK : IntKind → Int
  | .i8 => -128 | .i16 => -32768 | .i32 => -2147483648 | .i64 => -9223372036854775808 | _ => 0
def hiK : IntKind → Int
  | .i8 => 127 | .i16 => 32767 | .i32 => 2147483647 | .i64 => 9223372036854775807 | .u8 => 255 | .u16 => 65535 | .u32 => 4294967295 | .u64 => 18446744073709551615
/-- A value of one cell that fits its kind. -/
def okV : Value → Bool
  | .int k n => decide (loK k ≤ n) && decide (n ≤ hiK k)
  | .string s => decide (s.size ≤ 9223372036854775807)
  | .agg _ | .tuple _ => false
  | _ => true
theorem okV_one {v : Value} (h : okV v = true) : v.oneCell' = true := by cases v <;> first | rfl | cases h
theorem okV_int {k : IntKind} {n : Int} : okV (.int k n) = true ↔ loK k ≤ n ∧ n ≤ hiK k := by
  unfold okV
  rw [Bool.and_eq_true]
  exact ⟨fun h => ⟨of_decide_eq_true h.1, of_decide_eq_true h.2⟩, fun h => ⟨decide_eq_true h.1, decide_eq_true h.2⟩⟩
theorem okV_i64 {n : Int} (h : -9223372036854775808 ≤ n ∧ n ≤ 9223372036854775807) : okV (.int .i64 n) = true := okV_int.2 h
theorem of_okV_i64 {n : Int} (h : okV (.int .i64 n) = true) : -9223372036854775808 ≤ n ∧ n ≤ 9223372036854775807 := okV_int.1 h
theorem okV_u8 {n : Int} (h : 0 ≤ n ∧ n ≤ 255) : okV (.int .u8 n) = true := okV_int.2 h
theorem okV_str {s : ByteArray} : okV (.string s) = true ↔ s.size ≤ 9223372036854775807 := by
  unfold okV
  exact ⟨fun h => of_decide_eq_true h, fun h => decide_eq_true h⟩
theorem okV_wrap (k : IntKind) (n : Int) : okV (.int k (k.wrap n)) = true := by
  rw [okV_int]
  cases k <;> simp only [IntKind.wrap, IntKind.bits, IntKind.signed, loK, hiK] <;> simp <;> (try split) <;> omega

/-- F: where the frame's own blocks begin. Where the call's own blocks begin; what is laid for good (of each block so many cells); what the named objects are: version, writes, value. -/
structure Env where
  B : Nat
  L : Nat → Nat
  T : Nat → Option (Nat × Nat × Value)
  nx : Nat
  F : Nat

def blk : Value → Option Nat
  | .pointer (some a) => some a.block
  | .slice (some a) _ _ => some a.block
  | .map (some r) => some r
  | _ => none

/-- So many cells lie there for good. -/
def Laid (E : Env) (w : World) (a : Option Addr) (n : Nat) (us : Nat → Value) : Prop :=
  n = 0 ∨ ∃ b off, a = some ⟨b, off, none⟩ ∧ off + n ≤ E.L b ∧ ∀ j, j < n → w.cell? ⟨b, off + j, none⟩ = some (us j)

inductive R (E : Env) (w : World) : C → Value → Prop
  | v {x : Value} : okV x = true → R E w (.v x) x
  | list {rows : List (List C)} {tok : Tok} {a : Option Addr} {cap sz : Nat} {us : Nat → Value} : rows.length ≤ cap → cap ≤ maxLen → 1 ≤ sz → (∀ r ∈ rows, r.length = sz) → (∀ r ∈ rows, ∀ c ∈ r, c.one = true) →
      Laid E w a rows.flatten.length us → (∀ j c, rows.flatten[j]? = some c → R E w c (us j)) →
      (tok = .nil → a = none ∧ cap = 0) → (tok = .zero → cap = 0) → (∀ n, tok = .tip n → n < E.nx ∧ ∀ ver wv val, E.T n = some (ver, wv, val) → rows.length ≤ ver ∧ (rows.length = ver → val = .slice a rows.length cap)) →
      R E w (.list rows tok) (.slice a rows.length cap)
  | elem {cs : List C} {b off : Nat} {us : Nat → Value} : cs ≠ [] → (∀ c ∈ cs, c.one = true) → Laid E w (some ⟨b, off, none⟩) cs.length us → (∀ j c, cs[j]? = some c → R E w c (us j)) → R E w (.elem cs) (.pointer (some ⟨b, off, none⟩))
  | box {n ver off b : Nat} : n < E.nx → (∀ ver' wv val, E.T n = some (ver', wv, val) → ver ≤ ver' ∧ (ver = ver' → blk val = some b)) → R E w (.box n ver off) (.pointer (some ⟨b, off, none⟩))
  | arr {n len b cap : Nat} : n < E.nx → len ≤ cap → cap ≤ maxLen → (∀ ver' wv val, E.T n = some (ver', wv, val) → 0 ≤ ver' ∧ (0 = ver' → blk val = some b)) → R E w (.arr n len) (.slice (some ⟨b, 0, none⟩) len cap)
  | own {n ver len cap : Nat} {a : Option Addr} : n < E.nx → len ≤ cap → cap ≤ maxLen → (∀ ver' wv val, E.T n = some (ver', wv, val) → ver ≤ ver' ∧ (ver = ver' → val = .slice a len cap)) → R E w (.own n ver len) (.slice a len cap)
  | fn {f : Fn} {caps : List C} {us : Nat → Value} {vs : Array Value} : vs.size = caps.length → (∀ j c, caps[j]? = some c → R E w c (us j)) → (∀ j, j < caps.length → vs[j]? = some (us j)) → R E w (.fn f caps) (.func f #[] vs)
  | map {n : Nat} {r : Option Nat} : n < E.nx → (∀ ver wv val, E.T n = some (ver, wv, val) → ver = 0 → val = .map r) → R E w (.map n) (.map r)
  | agg {cs : List C} {us : Nat → Value} {vs : Array Value} : vs.size = cs.length → (∀ c ∈ cs, c.one = true) → (∀ j c, cs[j]? = some c → R E w c (us j)) → (∀ j, j < cs.length → vs[j]? = some (us j)) → R E w (.agg cs) (.agg vs)
  | tup {cs : List C} {us : Nat → Value} {vs : Array Value} : vs.size = cs.length → (∀ j c, cs[j]? = some c → R E w c (us j)) → (∀ j, j < cs.length → vs[j]? = some (us j)) → R E w (.tup cs) (.tuple vs)
  | any {x : Value} : R E w .any x

/-- .. of what is no cells; of what came to be laid. -/
structure EvX (E : Env) (w : World) (E' : Env) (w' : World) : Prop where
  F : E'.F = E.F
  lc : ∀ b, E.L b < E'.L b → ∃ v, w'.cell? ⟨b, 0, none⟩ = some v
  oth : ∀ (b : Nat) (o : Obj), w.heap[b]? = some o → o.isCells = false → (∀ n t, E.T n = some t → blk t.2.2 ≠ some b) → w'.heap[b]? = some o
  ic : ∀ (b : Nat) (o : Obj), w.heap[b]? = some o → ∃ o' : Obj, w'.heap[b]? = some o' ∧ o'.isCells = o.isCells
  nb : ∀ n t' b (o : Obj), E'.T n = some t' → blk t'.2.2 = some b → w.heap[b]? = some o → o.isCells = false → ∃ t, E.T n = some t ∧ blk t.2.2 = some b
  mv : ∀ n t t' b, n < E.nx → E.T n = some t → E'.T n = some t' → t.1 < t'.1 → blk t'.2.2 = some b → ∃ o : Obj, w'.heap[b]? = some o ∧ o.isCells = true
theorem EvX.refl (E : Env) (w : World) : EvX E w E w :=
  ⟨rfl, fun b h => absurd h (Nat.lt_irrefl _), fun _ _ h _ _ => h, fun _ o h => ⟨o, h, rfl⟩, fun _ t _ _ h k _ _ => ⟨t, h, k⟩, fun n t t' b _ h h' hv _ => by rw [h] at h'; cases h'; omega⟩
theorem EvX.trans {E1 E2 E3 : Env} {w1 w2 w3 : World} (h : EvX E1 w1 E2 w2) (k : EvX E2 w2 E3 w3) (hnx : E1.nx ≤ E2.nx) (hTk : ∀ n, n < E2.nx → ∀ ver' wv' val', E3.T n = some (ver', wv', val') → ∃ ver wv val, E2.T n = some (ver, wv, val) ∧ ver ≤ ver' ∧ (ver = ver' → val = val')) (hL : ∀ b, E2.L b ≤ E3.L b) (hc : ∀ b i, i < E2.L b → w3.cell? ⟨b, i, none⟩ = w2.cell? ⟨b, i, none⟩) : EvX E1 w1 E3 w3 := by
  refine ⟨k.F.trans h.F, fun b hb => ?_, fun b o ho hf hu => ?_, fun b o ho => ?_, fun n t' b o ht hb ho hf => ?_, fun n t t' b hn h1 h3 hlt hb => ?_⟩
  · by_cases h2 : E2.L b < E3.L b
    · exact k.lc b h2
    · have h3 : E1.L b < E2.L b := by have := hL b; omega
      obtain ⟨v, hv⟩ := h.lc b h3
      exact ⟨v, (hc b 0 (by omega)).trans hv⟩
  · refine k.oth b o (h.oth b o ho hf hu) hf fun n t ht hb => ?_
    obtain ⟨t0, h0, h1⟩ := h.nb n t b o ht hb ho hf
    exact hu n t0 h0 h1
  · obtain ⟨o', h1, h2⟩ := h.ic b o ho
    obtain ⟨o2, h3, h4⟩ := k.ic b o' h1
    exact ⟨o2, h3, h4.trans h2⟩
  · obtain ⟨o', h1, h2⟩ := h.ic b o ho
    obtain ⟨t1, h3, h4⟩ := k.nb n t' b o' ht hb h1 (h2.trans hf)
    exact h.nb n t1 b o h3 h4 ho hf
  · obtain ⟨v3, x3, y3⟩ := t'
    obtain ⟨v2, x2, y2, h2, q1, q2⟩ := hTk n (Nat.lt_of_lt_of_le hn hnx) _ _ _ h3
    by_cases hv : v2 = v3
    · have hy := q2 hv
      subst hv; subst hy
      obtain ⟨o2, h4, h5⟩ := h.mv n t _ b hn h1 h2 hlt hb
      obtain ⟨o3, h6, h7⟩ := k.ic b o2 h4
      exact ⟨o3, h6, h7.trans h5⟩
    · exact k.mv n _ _ b (Nat.lt_of_lt_of_le hn hnx) h2 h3 (by show v2 < v3; omega) hb

/-- What has become of a world: what is laid for good stays; named objects get new versions. -/
structure Ev (E : Env) (w : World) (E' : Env) (w' : World) : Prop where
  below : Below E.B w w'
  B : E'.B = E.B
  L : ∀ b, E.L b ≤ E'.L b
  cell : ∀ b i, i < E.L b → w'.cell? ⟨b, i, none⟩ = w.cell? ⟨b, i, none⟩
  nx : E.nx ≤ E'.nx
  T : ∀ n, n < E.nx → ∀ ver' wv' val', E'.T n = some (ver', wv', val') → ∃ ver wv val, E.T n = some (ver, wv, val) ∧ ver ≤ ver' ∧ (ver = ver' → val = val' ∧ (wv = wv' → ∀ b, blk val = some b → w'.heap[b]? = w.heap[b]?))
  wv : ∀ n ver wv wv' val, E.T n = some (ver, wv, val) → E'.T n = some (ver, wv', val) → n < E.nx → wv ≤ wv'
  x : EvX E w E' w'

theorem Ev.refl (E : Env) (w : World) : Ev E w E w :=
  ⟨Below.refl _ _, rfl, fun _ => Nat.le_refl _, fun _ _ _ => rfl, Nat.le_refl _, fun n _ ver wv val h => ⟨ver, wv, val, h, Nat.le_refl _, fun _ => ⟨rfl, fun _ _ _ => rfl⟩⟩, fun n ver wv wv' val h h' _ => by rw [h] at h'; injection h' with h'; injection h' with _ h'; injection h' with h' _; omega, EvX.refl E w⟩

theorem Ev.trans {E1 E2 E3 : Env} {w1 w2 w3 : World} (h : Ev E1 w1 E2 w2) (k : Ev E2 w2 E3 w3) : Ev E1 w1 E3 w3 := by
  refine ⟨h.below.trans (h.B ▸ k.below), k.B.trans h.B, fun b => Nat.le_trans (h.L b) (k.L b), fun b i hi => (k.cell b i (Nat.lt_of_lt_of_le hi (h.L b))).trans (h.cell b i hi), Nat.le_trans h.nx k.nx, ?_, ?_, h.x.trans k.x h.nx (fun n hn v x y ht => let ⟨a, b, c, h1, h2, h3⟩ := k.T n hn v x y ht; ⟨a, b, c, h1, h2, fun e => (h3 e).1⟩) k.L k.cell⟩
  · intro n hn v3 wv3 val3 h3
    obtain ⟨v2, wv2, val2, h2, hv2, e2⟩ := k.T n (Nat.lt_of_lt_of_le hn h.nx) _ _ _ h3
    obtain ⟨v1, wv1, val1, h1, hv1, e1⟩ := h.T n hn _ _ _ h2
    refine ⟨v1, wv1, val1, h1, Nat.le_trans hv1 hv2, fun e => ?_⟩
    obtain ⟨q1, q2⟩ := e1 (by omega)
    obtain ⟨q3, q4⟩ := e2 (by omega)
    refine ⟨q1.trans q3, fun ew b hb => ?_⟩
    have l1 := h.wv n v1 wv1 wv2 val1 h1 (by rw [h2, q1]; simp; omega) hn
    have l2 := k.wv n v2 wv2 wv3 val2 h2 (by rw [h3, q3]; simp; omega) (Nat.lt_of_lt_of_le hn h.nx)
    exact (q4 (by omega) b (by rw [← q1]; exact hb)).trans (q2 (by omega) b hb)
  · intro n ver wv wv3 val h1 h3 hn
    obtain ⟨v2, wv2, val2, h2, hv2, e2⟩ := k.T n (Nat.lt_of_lt_of_le hn h.nx) _ _ _ h3
    obtain ⟨v1, wv1, val1, h1', hv1, e1⟩ := h.T n hn _ _ _ h2
    rw [h1] at h1'
    simp only [Option.some.injEq, Prod.mk.injEq] at h1'
    obtain ⟨rfl, rfl, rfl⟩ := h1'
    obtain ⟨q3, _⟩ := e2 (by omega)
    obtain ⟨q1, _⟩ := e1 (by omega)
    have l1 := h.wv n ver wv wv2 val h1 (by rw [h2, q1]; simp; omega) hn
    have l2 := k.wv n v2 wv2 wv3 val2 h2 (by rw [h3, q3]; simp; omega) (Nat.lt_of_lt_of_le hn h.nx)
    omega

theorem Laid.ev {E E' : Env} {w w' : World} (h : Ev E w E' w') {a : Option Addr} {n : Nat} {us : Nat → Value} (hl : Laid E w a n us) : Laid E' w' a n us := by
  rcases hl with h0 | ⟨b, off, ha, hb, hc⟩
  · exact .inl h0
  · exact .inr ⟨b, off, ha, Nat.le_trans hb (h.L b), fun j hj => (h.cell b (off + j) (by omega)).trans (hc j hj)⟩

theorem R.ev {E E' : Env} {w w' : World} (h : Ev E w E' w') {c : C} {x : Value} (hr : R E w c x) : R E' w' c x := by
  induction hr with
  | v hx => exact .v hx
  | list h1 h2 h3 h4 h5 h6 _ z1 z2 h8 ih =>
    refine .list h1 h2 h3 h4 h5 (h6.ev h) ih z1 z2 fun n hn => ⟨Nat.lt_of_lt_of_le (h8 n hn).1 h.nx, fun ver' wv' val' h' => ?_⟩
    obtain ⟨ver, wv, val, hT, hle, he⟩ := h.T n (h8 n hn).1 _ _ _ h'
    obtain ⟨q1, q2⟩ := (h8 n hn).2 _ _ _ hT
    exact ⟨Nat.le_trans q1 hle, fun e => (he (by omega)).1 ▸ q2 (by omega)⟩
  | elem h1 h2 h3 _ ih => exact .elem h1 h2 (h3.ev h) ih
  | box h1 h2 =>
    refine .box (Nat.lt_of_lt_of_le h1 h.nx) fun ver' wv' val' h' => ?_
    obtain ⟨ver, wv, val, hT, hle, he⟩ := h.T _ h1 _ _ _ h'
    obtain ⟨q1, q2⟩ := h2 _ _ _ hT
    exact ⟨Nat.le_trans q1 hle, fun e => (he (by omega)).1 ▸ q2 (by omega)⟩
  | own h1 hl hc h2 =>
    refine .own (Nat.lt_of_lt_of_le h1 h.nx) hl hc fun ver' wv' val' h' => ?_
    obtain ⟨ver, wv, val, hT, hle, he⟩ := h.T _ h1 _ _ _ h'
    obtain ⟨q1, q2⟩ := h2 _ _ _ hT
    exact ⟨Nat.le_trans q1 hle, fun e => (he (by omega)).1 ▸ q2 (by omega)⟩
  | arr h1 hl hc h2 =>
    refine .arr (Nat.lt_of_lt_of_le h1 h.nx) hl hc fun ver' wv' val' h' => ?_
    obtain ⟨ver, wv, val, hT, hle, he⟩ := h.T _ h1 _ _ _ h'
    obtain ⟨q1, q2⟩ := h2 _ _ _ hT
    exact ⟨Nat.le_trans q1 hle, fun e => (he (by omega)).1 ▸ q2 (by omega)⟩
  | fn h1 _ h3 ih => exact .fn h1 ih h3
  | map h1 h2 =>
    refine .map (Nat.lt_of_lt_of_le h1 h.nx) fun ver' wv' val' h' => ?_
    obtain ⟨ver, wv, val, hT, hle, he⟩ := h.T _ h1 _ _ _ h'
    exact fun e => (he (by omega)).1 ▸ h2 _ _ _ hT (by omega)
  | agg h1 h2 _ h4 ih => exact .agg h1 h2 ih h4
  | tup h1 _ h3 ih => exact .tup h1 ih h3
  | any => exact .any

/-- What stands for a value hangs on what is laid, and on the names. -/
theorem Laid.same {E E' : Env} {w w' : World} (hL : ∀ b, E.L b ≤ E'.L b) (hc : ∀ b i, i < E.L b → w'.cell? ⟨b, i, none⟩ = w.cell? ⟨b, i, none⟩) {a : Option Addr} {n : Nat} {us : Nat → Value} (hl : Laid E w a n us) : Laid E' w' a n us := by
  rcases hl with h0 | ⟨b, off, ha, hb, h⟩
  · exact .inl h0
  · exact .inr ⟨b, off, ha, Nat.le_trans hb (hL b), fun j hj => (hc b (off + j) (by omega)).trans (h j hj)⟩
theorem R.same {E E' : Env} {w w' : World} (hL : ∀ b, E.L b ≤ E'.L b) (hc : ∀ b i, i < E.L b → w'.cell? ⟨b, i, none⟩ = w.cell? ⟨b, i, none⟩) (hT : E'.T = E.T) (hn : E'.nx = E.nx) {c : C} {x : Value} (hr : R E w c x) : R E' w' c x := by
  induction hr with
  | v hx => exact .v hx
  | list h1 h2 h3 h4 h5 h6 _ z1 z2 h8 ih => exact .list h1 h2 h3 h4 h5 (h6.same hL hc) ih z1 z2 fun n h => ⟨hn ▸ (h8 n h).1, fun ver wv val ht => (h8 n h).2 ver wv val (hT ▸ ht)⟩
  | elem h1 h2 h3 _ ih => exact .elem h1 h2 (h3.same hL hc) ih
  | box h1 h2 => exact .box (hn ▸ h1) fun ver wv val ht => h2 ver wv val (hT ▸ ht)
  | arr h1 h2 h3 h4 => exact .arr (hn ▸ h1) h2 h3 fun ver wv val ht => h4 ver wv val (hT ▸ ht)
  | own h1 h2 h3 h4 => exact .own (hn ▸ h1) h2 h3 fun ver wv val ht => h4 ver wv val (hT ▸ ht)
  | fn h1 _ h3 ih => exact .fn h1 ih h3
  | map h1 h2 => exact .map (hn ▸ h1) fun ver wv val ht => h2 ver wv val (hT ▸ ht)
  | agg h1 h2 _ h4 ih => exact .agg h1 h2 ih h4
  | tup h1 _ h3 ih => exact .tup h1 ih h3
  | any => exact .any

/-- Values one by one. -/
def Rs (E : Env) (w : World) (cs : List C) (vs : List Value) : Prop := vs.length = cs.length ∧ ∀ (j : Nat) (c : C) (v : Value), cs[j]? = some c → vs[j]? = some v → R E w c v
theorem Rs.ev {E E' : Env} {w w' : World} (h : Ev E w E' w') {cs : List C} {vs : List Value} (hr : Rs E w cs vs) : Rs E' w' cs vs := ⟨hr.1, fun j c v h1 h2 => (hr.2 j c v h1 h2).ev h⟩
theorem Rs.same {E E' : Env} {w w' : World} (hL : ∀ b, E.L b ≤ E'.L b) (hc : ∀ b i, i < E.L b → w'.cell? ⟨b, i, none⟩ = w.cell? ⟨b, i, none⟩) (hT : E'.T = E.T) (hn : E'.nx = E.nx) {cs : List C} {vs : List Value} (hr : Rs E w cs vs) : Rs E' w' cs vs :=
  ⟨hr.1, fun j c v h1 h2 => (hr.2 j c v h1 h2).same hL hc hT hn⟩
end Go.AB
