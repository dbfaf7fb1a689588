/-
 Values as they are, told out of abstract cells; all places of a text, with their words.
-/
import Derived.Test.YtjjklfgpffgnfaaGreatDoorEngB
import Derived.Test.YtjjklfgpffgnfaaGreatDoorAdData
namespace Go.AB
open Go Go.RowKit
open Go.AB.Enc (cells)
open Go.PB (bv ai PlaceD cy c6 cz)

section
variable {E : Env} {w : World}
theorem R.okV {c : C} {v : Value} (h : R E w c v) (h1 : c.one = true) : okV v = true := by
 cases h with
 | v h => exact h
 | list => rfl
 | elem => rfl
 | box => rfl
 | arr => rfl
 | own => rfl
 | fn => rfl
 | map => rfl
 | agg => cases h1
 | tup => cases h1
 | any => cases h1
theorem R.exact {c : C} {v : Value} (h : R E w c v) (h1 : c.one = true) : R E w (.v v) v := .v (h.okV h1)
theorem Rs.exact {cs : List C} {vs : List Value} (h : Rs E w cs vs) (h1 : ∀ c ∈ cs, c.one = true) : Rs E w (vs.map .v) vs := by
 refine ⟨by simp, fun j c v hc hv => ?_⟩
 rw [List.getElem?_map, hv] at hc
 simp only [Option.map_some, Option.some.injEq] at hc
 subst hc
 have hlt : j < cs.length := by rw [← h.1]; exact (List.getElem?_eq_some_iff.1 hv).1
 exact (h.2 j _ v (List.getElem?_eq_getElem hlt) hv).exact (h1 _ (List.getElem_mem hlt))
theorem R.elem_exact {cs : List C} {v : Value} (h : R E w (.elem cs) v) : ∃ vs : List Value, R E w (.elem (vs.map .v)) v ∧ Rs E w cs vs := by
 cases h with
 | @elem _ b off us h1 h2 h3 h4 =>
  have hrs : Rs E w cs ((List.range cs.length).map us) := ⟨by simp, fun j c v hc hv => by
   rw [List.getElem?_map] at hv
   have hlt := (List.getElem?_eq_some_iff.1 hc).1
   rw [List.getElem?_range hlt] at hv
   simp only [Option.map_some, Option.some.injEq] at hv
   subst hv
   exact h4 j c hc⟩
  refine ⟨(List.range cs.length).map us, .elem (us := us) (by simpa using h1) (fun c hc => ?_) (by simpa using h3) (fun j c hc => ?_), hrs⟩
  ·obtain ⟨x, _, rfl⟩ := List.mem_map.1 hc; rfl
  ·have hex := hrs.exact h2
   rw [List.getElem?_map, List.getElem?_map] at hc
   by_cases hlt : j < cs.length
   ·rw [List.getElem?_range hlt] at hc
    simp only [Option.map_some, Option.some.injEq] at hc
    subst hc
    exact (h4 j _ (List.getElem?_eq_getElem hlt)).exact (h2 _ (List.getElem_mem hlt))
   ·rw [List.getElem?_eq_none (by simp; omega)] at hc; cases hc

def lw {α : Type} (sz : Nat) : Nat → List α → List (List α)
 | 0, _ => []
 | n + 1, l => l.take sz :: lw sz n (l.drop sz)
theorem ucj {α : Type} (sz : Nat) : ∀ (n : Nat) (l : List α), (lw sz n l).length = n
 | 0, _ => rfl
 | n + 1, l => by simp [lw, ucj sz n]
theorem uck {α : Type} (sz : Nat) : ∀ (n : Nat) (l : List α), l.length = n * sz → (lw sz n l).flatten = l
 | 0, l, h => by simp at h; subst h; rfl
 | n + 1, l, h => by
  rw [lw, List.flatten_cons, uck sz n (l.drop sz) (by rw [List.length_drop, h, Nat.add_mul]; omega), List.take_append_drop]
theorem xh {α : Type} (sz : Nat) : ∀ (n k : Nat) (l : List α), k < n → (lw sz n l)[k]? = some ((l.drop (k * sz)).take sz)
 | 0, k, l, h => by omega
 | n + 1, 0, l, h => by simp [lw]
 | n + 1, k + 1, l, h => by
  rw [lw, List.getElem?_cons_succ, xh sz n k (l.drop sz) (by omega), List.drop_drop, Nat.add_mul]
  congr 3; omega
theorem R.list_exact {rows : List (List C)} {tok : Tok} {v : Value} (h : R E w (.list rows tok) v) : ∃ vr : List (List Value), R E w (.list (vr.map fun r => r.map .v) .none) v ∧ vr.length = rows.length ∧ rows.length ≤ maxLen ∧ ∀ (k : Nat) (row : List C), rows[k]? = some row → ∃ vs, vr[k]? = some vs ∧ Rs E w row vs := by
 obtain ⟨a, cap, sz, us, rfl, h1, h2, h3, h4, h5, h6, h7, _⟩ := R.list_inv h
 have hul : us.length = rows.length * sz := by rw [h6.1]; exact ka h4
 have hfl := uck sz rows.length us hul
 have hlen := ucj sz rows.length us
 have hex : Rs E w (us.map .v) us := h6.exact fun c hc => by
  obtain ⟨r, hr, hcr⟩ := List.mem_flatten.1 hc
  exact h5 r hr c hcr
 have hrow : ∀ (k : Nat) (row : List C), rows[k]? = some row → Rs E w row ((us.drop (k * sz)).take sz) := fun k row hk => by
  have hlt := (List.getElem?_eq_some_iff.1 hk).1
  have hrl := h4 row (List.mem_of_getElem? hk)
  have hm : (k + 1) * sz ≤ rows.length * sz := Nat.mul_le_mul_right _ hlt
  rw [Nat.add_mul] at hm
  refine ⟨by rw [List.length_take, List.length_drop]; omega, fun j c x hc hx => ?_⟩
  have hj : j < sz := by rw [← hrl]; exact (List.getElem?_eq_some_iff.1 hc).1
  rw [List.getElem?_take, if_pos hj, List.getElem?_drop] at hx
  exact h6.2 _ c x (rl h4 hk hc) hx
 have hfm : ((lw sz rows.length us).map fun r => r.map C.v).flatten = us.map .v := by
  conv => rhs; rw [← hfl]
  rw [List.map_flatten]
 refine ⟨lw sz rows.length us, ?_, hlen, Nat.le_trans h1 h2, fun k row hk => ⟨_, xh sz _ k us (List.getElem?_eq_some_iff.1 hk).1, hrow k row hk⟩⟩
 have := R.mk_list (E := E) (w := w) (rows := (lw sz rows.length us).map fun r => r.map C.v) (a := a) (cap := cap) (sz := sz) (us := us) (tok := .none) (by simpa [hlen] using h1) h2 h3 (fun r hr => by
   obtain ⟨x, hx, rfl⟩ := List.mem_map.1 hr
   obtain ⟨k, hk⟩ := List.getElem?_of_mem hx
   have hlt := (List.getElem?_eq_some_iff.1 hk).1
   rw [hlen] at hlt
   rw [xh sz _ k us hlt] at hk
   simp only [Option.some.injEq] at hk
   subst hk
   have hm : (k + 1) * sz ≤ rows.length * sz := Nat.mul_le_mul_right _ hlt
   rw [Nat.add_mul] at hm
   rw [List.length_map, List.length_take, List.length_drop]; omega) (fun r hr c hc => by
   obtain ⟨x, _, rfl⟩ := List.mem_map.1 hr
   obtain ⟨y, _, rfl⟩ := List.mem_map.1 hc
   rfl) (by rw [hfm]; exact hex) (by
   rcases h7 with rfl | ⟨b, off, e, k1, k2⟩
   ·exact .inl (by simp [lw])
   ·exact .inr ⟨b, off, e, k1, k2⟩) (by simp) (by simp) (by simp)
 simpa [hlen] using this
end

/-- A text, value by value. -/
structure TextX (L : Nat → Nat) (Ws : World) (t : ai) (V : Value) (lv : Nat → Value) (wv : Nat → Nat → Value) : Prop where
 top : Known L Ws V (.list (t.mapIdx fun k c => [.v (.int .i64 c.id), .v (lv k)]) .none)
 len : t.length ≤ 9223372036854775807
 lines : ∀ (k : Nat) (c : bv), t[k]? = some c → Known L Ws (lv k) (.list (c.lines.mapIdx fun n _ => [.v (wv k n)]) .none) ∧ c.lines.length ≤ 9223372036854775807
 words : ∀ (k : Nat) (c : bv) (n : Nat) (l : List ByteArray), t[k]? = some c → c.lines[n]? = some l → Known L Ws (wv k n) (lst l) ∧ l.length ≤ 9223372036854775807
theorem ued {E : Env} {W : World} {t : ai} {V : Value} (h0 : E.nx = 0) (h : R E W (lst t) V) : ∃ lv wv, TextX E.L W t V lv wv := by
 obtain ⟨vr, h1, h2, h3, h4⟩ := R.list_exact h
 rw [List.length_map] at h2 h3
 have hmax : maxLen = 9223372036854775807 := rfl
 have hrow : ∀ (k : Nat) (c : bv), t[k]? = some c → ∃ v, vr[k]? = some [.int .i64 c.id, v] ∧ R E W (lst c.lines) v := fun k c hk => by
  obtain ⟨vs, q1, q2⟩ := h4 k (cells c) (cm hk)
  match vs, q2 with
  | [a, v], q2 =>
   have e1 := (q2.2 0 _ _ rfl rfl).v_inv
   subst e1
   exact ⟨v, q1, q2.2 1 (lst c.lines) _ rfl rfl⟩
  | [], q2 => exact absurd q2.1 (by simp [cells])
  | [_], q2 => exact absurd q2.1 (by simp [cells])
  | _ :: _ :: _ :: _, q2 => exact absurd q2.1 (by simp [cells])
 have hlv : ∀ k : Nat, ∃ v, ∀ c : bv, t[k]? = some c → vr[k]? = some [.int .i64 c.id, v] ∧ R E W (lst c.lines) v := fun k => by
  cases hk : t[k]? with
  | none => exact ⟨undef, fun c hc => by cases hc⟩
  | some c =>
   obtain ⟨v, q1, q2⟩ := hrow k c hk
   exact ⟨v, fun c' hc => by cases hc; exact ⟨q1, q2⟩⟩
 obtain ⟨lv, hlv⟩ := Classical.axiomOfChoice hlv
 have hwv : ∀ k : Nat, ∃ f : Nat → Value, ∀ c : bv, t[k]? = some c → R E W (.list (c.lines.mapIdx fun n _ => [.v (f n)]) .none) (lv k) ∧ c.lines.length ≤ maxLen ∧ ∀ (n : Nat) (l : List ByteArray), c.lines[n]? = some l → R E W (lst l) (f n) := fun k => by
  cases hk : t[k]? with
  | none => exact ⟨fun _ => undef, fun c hc => by cases hc⟩
  | some c =>
   obtain ⟨_, hl⟩ := hlv k c hk
   obtain ⟨wr, r1, r2, r3, r4⟩ := R.list_exact hl
   rw [List.length_map] at r2 r3
   have hw : ∀ n : Nat, ∃ v, ∀ l : List ByteArray, c.lines[n]? = some l → wr[n]? = some [v] ∧ R E W (lst l) v := fun n => by
    cases hn : c.lines[n]? with
    | none => exact ⟨undef, fun l hl => by cases hl⟩
    | some l =>
     obtain ⟨vs, q1, q2⟩ := r4 n (cells l) (cm hn)
     match vs, q2 with
     | [v], q2 => exact ⟨v, fun l' hl' => by cases hl'; exact ⟨q1, q2.2 0 (lst l) _ rfl rfl⟩⟩
     | [], q2 => exact absurd q2.1 (by simp [cells])
     | _ :: _ :: _, q2 => exact absurd q2.1 (by simp [cells])
   obtain ⟨f, hf⟩ := Classical.axiomOfChoice hw
   refine ⟨f, fun c' hc => ?_⟩
   cases hc
   refine ⟨?_, r3, fun n l hn => (hf n l hn).2⟩
   have : (wr.map fun r => r.map C.v) = c.lines.mapIdx fun n _ => [C.v (f n)] := by
    apply List.ext_getElem?
    intro n
    rw [List.getElem?_map, List.getElem?_mapIdx]
    cases hn : c.lines[n]? with
    | none =>
     have : wr[n]? = none := by rw [List.getElem?_eq_none_iff] at hn ⊢; omega
     rw [this]; rfl
    | some l => rw [(hf n l hn).1]; rfl
   rw [← this]; exact r1
 obtain ⟨wv, hwv⟩ := Classical.axiomOfChoice hwv
 refine ⟨lv, wv, Known.of h0 ?_, by rw [← hmax]; exact h3, fun k c hk => ⟨Known.of h0 (hwv k c hk).1, by rw [← hmax]; exact (hwv k c hk).2.1⟩, fun k c n l hk hn => ?_⟩
 ·have : (vr.map fun r => r.map C.v) = t.mapIdx fun k c => [C.v (.int .i64 c.id), C.v (lv k)] := by
   apply List.ext_getElem?
   intro k
   rw [List.getElem?_map, List.getElem?_mapIdx]
   cases hk : t[k]? with
   | none =>
    have : vr[k]? = none := by rw [List.getElem?_eq_none_iff] at hk ⊢; omega
    rw [this]; rfl
   | some c => rw [(hlv k c hk).1]; rfl
  rw [← this]; exact h1
 ·have := (hwv k c hk).2.2 n l hn
  refine ⟨Known.of h0 this, ?_⟩
  obtain ⟨a, cap, _, _, _, q1, q2, _⟩ := R.list_inv this
  rw [List.length_map] at q1
  rw [← hmax]; omega

/-! ### All places, with their words -/
end Go.AB
