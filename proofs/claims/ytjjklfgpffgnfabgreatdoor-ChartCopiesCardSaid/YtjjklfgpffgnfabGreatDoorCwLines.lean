/-
 The iterator over the lines of a text.
-/
import Derived.Test.YtjjklfgpffgnfabGreatDoorCvOpen
import Derived.Test.YtjjklfgpffgnfabGreatDoorItData
namespace Go.AB
open Go Go.RowKit
open Go.AB.Enc (cells)
open Go.PB (bh af PlaceD ar bp cj)
theorem ulv {L : Nat → Nat} {W : World} {v : Value} {rows : List (List C)} {tok : Tok} (h : Known L W v (.list rows tok)) : ∃ a cap, v = .slice a rows.length cap := by
 obtain ⟨a, cap, _, _, e, _⟩ := R.list_inv (h (itE L) W (fun _ => Nat.le_refl _) fun _ _ _ => rfl)
 exact ⟨a, cap, e⟩
theorem TextX.later {L : Nat → Nat} {w W : World} {t : af} {V : Value} {lv : Nat → Value} {wv : Nat → Nat → Value} (h : TextX L w t V lv wv) (hc : ∀ b i, i < L b → W.cell? ⟨b, i, none⟩ = w.cell? ⟨b, i, none⟩) : TextX L W t V lv wv :=
 ⟨h.top.later hc, h.len, fun k c hk => ⟨(h.lines k c hk).1.later hc, (h.lines k c hk).2⟩, fun k c n l hk hn => ⟨(h.words k c n l hk hn).1.later hc, (h.words k c n l hk hn).2⟩⟩
/-- All lines, with the values of their words. -/
abbrev LV := L2 × Value
def nl (k : Nat) (f : Nat → Value) (ls : List (List ByteArray)) : List LV := ls.mapIdx fun n _ => (((k : Int), (n : Int)), f n)
def l9 (t : af) (wv : Nat → Nat → Value) : List LV := (t.mapIdx fun k c => nl k (wv k) c.lines).flatten
theorem ucm (k : Nat) (f : Nat → Value) {ls : List (List ByteArray)} {n : Nat} {l : List ByteArray} (h : ls[n]? = some l) : nl k f (ls.take (n + 1)) = nl k f (ls.take n) ++ [(((k : Int), (n : Int)), f n)] := xy h
theorem ufp (wv : Nat → Nat → Value) {t : af} {k : Nat} {c : bh} (h : t[k]? = some c) : l9 (t.take (k + 1)) wv = l9 (t.take k) wv ++ nl k (wv k) c.lines := by
 unfold l9
 rw [xy h, List.flatten_append]; simp
theorem ugc (wv : Nat → Nat → Value) {t : af} {k : Nat} {c : bh} (hc : t[k]? = some c) (n : Nat) : l9 (t.take k) wv ++ nl k (wv k) (c.lines.take n) <+: l9 t wv := by
 refine List.IsPrefix.trans ?_ (um2 (ucd _ _ (k + 1)))
 show _ <+: l9 (t.take (k + 1)) wv
 rw [ufp wv hc]
 exact (List.prefix_append_right_inj _).2 (ucd _ _ n)
theorem uqp (t : af) (wv : Nat → Nat → Value) : (l9 t wv).map (·.1) = dn t := by
 unfold l9 dn
 rw [List.map_flatten, ui]
 congr 2
 funext k c
 unfold nl
 rw [ui]
def encL (x : LV) : List Value := [.agg #[.int .i64 x.1.1, .int .i64 x.1.2], x.2]
def clL (x : LV) : List C := [.agg [.v (.int .i64 x.1.1), .v (.int .i64 x.1.2)], .v x.2]
theorem unn {E : Env} {W : World} {k n : Int} {v : Value} {vs : List Value} (h : Rs E W [.agg [.v (.int .i64 k), .v (.int .i64 n)], .v v] vs) : vs = encL ((k, n), v) := by
 match vs, h with
 | [a, b], h =>
  have e2 := (h.2 1 _ _ rfl rfl).v_inv
  obtain ⟨us, e1, hu, _⟩ := (h.2 0 _ _ rfl rfl).agg_inv
  match us, hu with
  | [x, y], hu =>
   have q1 := (hu.2 0 _ _ rfl rfl).v_inv
   have q2 := (hu.2 1 _ _ rfl rfl).v_inv
   subst q1; subst q2; subst e1; subst e2; rfl
  | [], hu => exact absurd hu.1 (by simp)
  | [_], hu => exact absurd hu.1 (by simp)
  | _ :: _ :: _ :: _, hu => exact absurd hu.1 (by simp)
 | [], h => exact absurd h.1 (by simp)
 | [_], h => exact absurd h.1 (by simp)
 | _ :: _ :: _ :: _, h => exact absurd h.1 (by simp)
/-- What is known of the lines that come. -/
structure LinesX (t : af) (xs : List LV) : Prop where
 fst : xs.map (·.1) = dn t
 at' : ∀ x ∈ xs, ∃ (k n : Nat) (c : bh) (l : List ByteArray) (a : Option Addr) (cap : Nat), x = (((k : Int), (n : Int)), .slice a l.length cap) ∧ t[k]? = some c ∧ c.lines[n]? = some l
 ok : t.length ≤ 9223372036854775807 ∧ ∀ c ∈ t, c.lines.length ≤ 9223372036854775807 ∧ ∀ l ∈ c.lines, l.length ≤ 9223372036854775807
theorem LinesX.cl {t : af} {xs : List LV} (h : LinesX t xs) : ∀ x ∈ xs, ∀ E W, Rs E W (clL x) (encL x) := fun x hx E W => by
 obtain ⟨k, n, c, l, a, cap, rfl, hc, hl⟩ := h.at' x hx
 have h1 := (List.getElem?_eq_some_iff.1 hc).1
 have h2 := (List.getElem?_eq_some_iff.1 hl).1
 have h3 := (h.ok.2 c (List.mem_of_getElem? hc)).1
 have h4 := h.ok.1
 exact Rs.cons ((Rs.cons (.v (jq (n := (k : Int)) ⟨by omega, by omega⟩)) (Rs.cons (.v (jq (n := (n : Int)) ⟨by omega, by omega⟩)) Rs.nil)).agg (by intro c hc; simp only [List.mem_cons, List.not_mem_nil, or_false] at hc; rcases hc with rfl | rfl <;> rfl)) (Rs.cons (.v rfl) Rs.nil)
theorem Rs.five {E : Env} {w : World} {c1 c2 c3 c4 c5 : C} {vs : List Value} (h : Rs E w [c1, c2, c3, c4, c5] vs) : ∃ v1 v2 v3 v4 v5, vs = [v1, v2, v3, v4, v5] := by
 match vs, h with
 | [a, b, c, d, e], _ => exact ⟨a, b, c, d, e, rfl⟩
 | [], h => exact absurd h.1 (by simp)
 | [_], h => exact absurd h.1 (by simp)
 | [_, _], h => exact absurd h.1 (by simp)
 | [_, _, _], h => exact absurd h.1 (by simp)
 | [_, _, _, _], h => exact absurd h.1 (by simp)
 | _ :: _ :: _ :: _ :: _ :: _ :: _, h => exact absurd h.1 (by simp)
theorem Rs.one' {E : Env} {w : World} {c1 : C} {vs : List Value} (h : Rs E w [c1] vs) : ∃ v1, vs = [v1] := by
 match vs, h with
 | [a], _ => exact ⟨a, rfl⟩
 | [], h => exact absurd h.1 (by simp)
 | _ :: _ :: _, h => exact absurd h.1 (by simp)
end Go.AB
namespace Go.Proofs.YtjjklfgpffgnfabGreatDoor
set_option maxRecDepth 10000
open Go.RowKit Go.AB
open Go.AB.Enc (cells)
open Go.PB (bh af PlaceD ar bp cj)
theorem x7 (t : af) (e : aw) (n m : Nat) : zo Tryz.prog 76 [.elem [.elem (gg t e n m)]] (LinesX t) encL := by
 refine umd Tryz.func76 rfl rfl (by simp [C.one]) fun E w lb hr => ?_
 obtain ⟨b, rfl⟩ := hr.one'
 obtain ⟨vs1, h1, hq1⟩ := (hr.2 0 _ _ rfl rfl).elem_exact
 obtain ⟨v1, rfl⟩ := hq1.one'
 obtain ⟨vs2, h2, hq2⟩ := (hq1.2 0 _ _ rfl rfl).elem_exact
 obtain ⟨a1, a2, V, a4, a5, rfl⟩ := Rs.five hq2
 have h3 : R E w (lst t) V := hq2.2 2 _ _ rfl rfl
 have k1 : Known E.L w b (.elem [.v v1]) := Known.of (E := E.drop 0) rfl (h1.drop (.elem fun c hc => by simp at hc; subst hc; exact .v))
 have k2 : Known E.L w v1 (.elem [.v a1, .v a2, .v V, .v a4, .v a5]) := Known.of (E := E.drop 0) rfl (h2.drop (.elem fun c hc => by simp at hc; rcases hc with rfl | rfl | rfl | rfl | rfl <;> exact .v))
 obtain ⟨lv, wv, hX0⟩ := ugu (E := E.drop 0) rfl (h3.drop (bd _ _))
 replace hX0 : TextX E.L w t V lv wv := hX0
 refine ⟨l9 t wv, ⟨uqp t wv, fun x hx => ?_, hX0.len, fun c hc => ?_⟩, fun W lx J Jx hcell ok => ?_⟩
 ·unfold l9 at hx
  obtain ⟨ys, hys, hx⟩ := List.mem_flatten.1 hx
  obtain ⟨k, hk, rfl⟩ := List.mem_mapIdx.1 hys
  unfold nl at hx
  obtain ⟨n, hn, rfl⟩ := List.mem_mapIdx.1 hx
  obtain ⟨a, cap, e1⟩ := ulv (hX0.words k _ n _ (List.getElem?_eq_getElem hk) (List.getElem?_eq_getElem hn)).1
  rw [List.length_map] at e1
  exact ⟨k, n, _, _, a, cap, by rw [e1], List.getElem?_eq_getElem hk, List.getElem?_eq_getElem hn⟩
 ·obtain ⟨k, hk⟩ := List.getElem?_of_mem hc
  refine ⟨(hX0.lines k c hk).2, fun l hl => ?_⟩
  obtain ⟨n, hn⟩ := List.getElem?_of_mem hl
  exact (hX0.words k c n l hk hn).2
 have hX := hX0.later hcell
 have hlen := hX0.len
 replace k1 := k1.later hcell
 replace k2 := k2.later hcell
 simp only [Tryz.ntmps76]
 dsimp only [List.length_cons, List.length_nil, List.map_cons, List.map_nil, Nat.reduceAdd, Nat.reduceSub]
 refine nq fun K1 hK1 => ?_
 refine qw ok [(b, .elem [.v v1]), (v1, .elem [.v a1, .v a2, .v V, .v a4, .v a5]), (V, .list (t.mapIdx fun k c => [.v (.int .i64 c.id), .v (lv k)]) .none)] (rb k1 (rb k2 (rb hX.top yl))) ?_
 dsimp only [lq]
 refine mj ?_
 try dsimp only [St.put]
 refine ba rfl (uhf 1 0 rfl rfl (bq rfl rfl)) ?_
 refine aa rfl (sa 7 1 rfl rfl (ie rfl rfl)) ?_
 refine aa rfl (cd rfl rfl rfl) ?_
 refine aa rfl (cd rfl rfl rfl) ?_
 try dsimp only [St.put]
 refine ba rfl (bq rfl rfl) ?_
 refine aa rfl (sa 11 2 rfl rfl (bx (k := t.length) rfl rfl List.length_mapIdx)) ?_
 refine aa rfl (i2 rfl (by constructor)) ?_
 refine mp ?_
 refine ⟨rfl, ?_⟩
 dsimp only [St.put, km, List.map, exC]
 refine hK1 _ _ ?_
 refine uu ?_
 refine uc4 14 ?_
 simp only [cx, bi, Nat.reduceAdd, List.getD_cons_zero, List.getD_cons_succ, List.getD_nil, dc, Nat.reduceBEq, cond_true, cond_false]
 refine uc5 (X := Nat) (fun k => k ≤ t.length) (fun k => t.length - k) (fun k => [(13, .v (.int .i64 (k : Int)))]) (fun k => (false, l9 (t.take k) wv)) 0 rfl ?_ ?_ ?_ ?_
 ·exact Nat.zero_le _
 ·exact zF
 ·rfl
 rintro k hI
 dsimp only at hI ⊢
 refine nq fun K2 hK2 => ?_
 refine qw ok [] (fun p hp => by cases hp) ?_
 dsimp only [lq]
 refine mj ?_
 refine aa rfl (ck rfl rfl rfl) ?_
 refine mp ?_
 refine ⟨rfl, ?_⟩
 dsimp only [St.put, km, List.map, exC]
 refine hK2 _ _ ?_
 refine nq fun K3 hK3 => ?_
 refine ut rfl (fun hc => ?_) (fun hc => ?_)
 ·replace hc := of_decide_eq_true hc
  obtain ⟨c, hk⟩ : ∃ c, t[k]? = some c := ⟨_, List.getElem?_eq_getElem (by omega)⟩
  have hk' : (t.mapIdx fun k c => [C.v (.int .i64 c.id), C.v (lv k)])[k]? = some [.v (.int .i64 c.id), .v (lv k)] := by rw [List.getElem?_mapIdx, hk]; rfl
  obtain ⟨hl1, hl2⟩ := hX.lines k c hk
  refine yc ?_
  refine hK3 _ _ ?_
  refine nq fun K4 hK4 => ?_
  refine uu ?_
  refine uma ok [(V, .list (t.mapIdx fun k c => [.v (.int .i64 c.id), .v (lv k)]) .none), (lv k, .list (c.lines.mapIdx fun n _ => [.v (wv k n)]) .none)] (rb hX.top (rb hl1 yl)) ?_
  dsimp only [lq]
  refine mj ?_
  refine aa rfl (i2 rfl (by constructor)) ?_
  try dsimp only [St.put]
  refine aa rfl (sa 11 0 rfl rfl (b8 rfl rfl rfl rfl hk' rfl)) ?_
  try dsimp only [St.put]
  refine ba rfl (bk rfl rfl rfl) ?_
  try dsimp only [St.put]
  refine ae rfl (bj rfl ?_)
  refine aa rfl (eh rfl (by constructor)) ?_
  try dsimp only [St.put]
  refine ae rfl (ax rfl rfl rfl zG rfl rfl (by rfl) ?_)
  refine mp ?_
  dsimp only [St.put]
  refine mj ?_
  refine aa rfl (ip rfl rfl) ?_
  try dsimp only [St.put]
  refine ba rfl (i7 rfl rfl zG trivial (by first | rfl | assumption)) ?_
  refine aa rfl (sa 19 1 rfl rfl (bx (k := c.lines.length) rfl rfl List.length_mapIdx)) ?_
  refine aa rfl (i2 rfl (by constructor)) ?_
  refine mp ?_
  refine ⟨rfl, ?_⟩
  dsimp only [St.put, km, List.map, exC]
  refine uu ?_
  refine uc4 22 ?_
  simp only [cx, bi, Nat.reduceAdd, List.getD_cons_zero, List.getD_cons_succ, List.getD_nil, dc, Nat.reduceBEq, cond_true, cond_false]
  refine uc5 (X := Nat) (fun n => n ≤ c.lines.length) (fun n => c.lines.length - n) (fun n => [(21, .v (.int .i64 (n : Int)))]) (fun n => (false, l9 (t.take k) wv ++ nl k (wv k) (c.lines.take n))) 0 rfl ?_ ?_ ?_ ?_
  ·exact Nat.zero_le _
  ·exact zF
  ·simp [nl]
  rintro n hI
  dsimp only at hI ⊢
  refine nq fun K6 hK6 => ?_
  refine qw ok [] (fun p hp => by cases hp) ?_
  dsimp only [lq]
  refine mj ?_
  refine aa rfl (ck rfl rfl rfl) ?_
  refine mp ?_
  refine ⟨rfl, ?_⟩
  dsimp only [St.put, km, List.map, exC]
  refine hK6 _ _ ?_
  refine nq fun K7 hK7 => ?_
  refine ut rfl (fun hc => ?_) (fun hc => ?_)
  ·replace hc := of_decide_eq_true hc
   obtain ⟨l, hn⟩ : ∃ l, c.lines[n]? = some l := ⟨_, List.getElem?_eq_getElem (by omega)⟩
   have hn' : (c.lines.mapIdx fun n _ => [C.v (wv k n)])[n]? = some [.v (wv k n)] := by rw [List.getElem?_mapIdx, hn]; rfl
   have hpre := ugc wv hk (n + 1)
   rw [ucm k (wv k) hn, ← List.append_assoc] at hpre
   refine yc ?_
   refine hK7 _ _ ?_
   refine nq fun K8 hK8 => ?_
   refine uu ?_
   refine nq fun K9 hK9 => ?_
   refine qw ok [(lv k, .list (c.lines.mapIdx fun n _ => [.v (wv k n)]) .none)] (rb hl1 yl) ?_
   dsimp only [lq]
   refine mj ?_
   refine aa rfl (i2 rfl (by constructor)) ?_
   try dsimp only [St.put]
   refine aa rfl (sa 19 0 rfl rfl (b8 rfl rfl rfl rfl hn' rfl)) ?_
   try dsimp only [St.put]
   refine ba rfl (bq rfl rfl) ?_
   refine aa rfl (eh rfl (by constructor)) ?_
   refine aa rfl (eh rfl (by constructor)) ?_
   refine mp ?_
   refine ⟨rfl, ?_⟩
   dsimp only [St.put, km, List.map, exC]
   refine hK9 _ _ ?_
   refine nq fun K10 hK10 => ?_
   refine umc ?_
   refine pj rfl (i2 rfl (by constructor)) ?_
   refine pj rfl (i2 rfl (by constructor)) ?_
   refine pj rfl (i2 rfl (by constructor)) ?_
   refine pj rfl (i3 rfl rfl) ?_
   refine pj rfl (i2 rfl (by constructor)) ?_
   try dsimp only [St.put]
   refine umg ok (x := ((((k : Int), (n : Int)), wv k n) : LV)) (hpre.subset (by simp)) rfl rfl rfl rfl (fun E W vs h => unn h) (Nat.lt_of_lt_of_le (by simp) hpre.length_le) ?_ ?_
   ·refine pj rfl (c9 rfl rfl) ?_
    refine uc8 ?_
    dsimp only [St.put]
    refine hK10 _ _ ?_
    refine ut rfl (fun h => by cases h) (fun _ => ?_)
    refine yc ?_
    refine hK8 _ _ ?_
    refine qw ok [] (fun p hp => by cases hp) ?_
    dsimp only [lq]
    refine mj ?_
    refine aa rfl (ca rfl rfl rfl (by omega)) ?_
    refine aa rfl (i2 rfl (by constructor)) ?_
    refine mp ?_
    refine ⟨rfl, ?_⟩
    dsimp only [St.put, km, List.map, exC]
    exact ⟨n + 1, by omega, by omega, by rw [ucm k (wv k) hn, List.append_assoc], rfl, rfl, ⟨⟨rfl, rfl⟩, zF, zB, zN, zX⟩⟩
   dsimp only [St.put, km, List.map, exC]
   refine pj rfl (c9 rfl rfl) ?_
   refine uc8 ?_
   dsimp only [St.put]
   refine hK10 _ _ ?_
   refine ut rfl (fun _ => ?_) (fun h => by cases h)
   refine umb ?_
   exact ump (st := ⟨0, [], [], noG, 0, 0⟩) hpre
  replace hc := of_decide_eq_false hc
  obtain rfl : n = c.lines.length := by omega
  refine uc6 ?_
  refine hK4 _ _ ?_
  refine qw ok [] (fun p hp => by cases hp) ?_
  dsimp only [lq]
  refine mj ?_
  refine aa rfl (ca rfl rfl rfl (by omega)) ?_
  refine aa rfl (i2 rfl (by constructor)) ?_
  refine mp ?_
  refine ⟨rfl, ?_⟩
  dsimp only [St.put, km, List.map, exC]
  exact ⟨k + 1, by omega, by omega, by rw [ufp wv hk, List.take_length], rfl, rfl, ⟨⟨rfl, rfl⟩, zF, zB, zN, zX⟩⟩
 replace hc := of_decide_eq_false hc
 obtain rfl : k = t.length := by omega
 refine uc6 ?_
 exact umq (st := ⟨0, [], [], noG, 0, 0⟩) (by rw [List.take_length])
theorem x6 (t : af) (e : aw) (n m : Nat) (G : Nat → Option GObj) (nx : Nat) (hn : n < nx) (hm : m < nx) : PC Tryz.prog 41 [.elem (gg t e n m)] G nx fun r' G' nx' => r' = .fn (.func 76) [.elem [.elem (gg t e n m)]] ∧ G' = G ∧ nx' = nx := by
 refine j6 (G) (nx) Tryz.func41 rfl (.fn (am (.elem (am (.elem (am .v (am (bd _ _) (am (bd _ _) (am (.map hn) (am (.map hm) bn)))))) bn)) bn)) zN (fun hlt => zH) ?_
 simp only [Tryz.ntmps41, List.length_cons, List.length_nil, Nat.reduceAdd, Nat.reduceSub]
 refine bf fun hlt => ?_
 dsimp only at hlt
 refine ze fun K1 hK1 => ?_
 refine mj ?_
 try dsimp only [St.put]
 refine ae rfl (vj rfl rfl (by simp) ?_)
 refine aa rfl (eh rfl (by constructor)) ?_
 refine mp ?_
 dsimp only [St.put]
 refine hK1 _ ?_
 refine ze fun K2 hK2 => ?_
 refine mj ?_
 refine aa rfl (ng rfl rfl) ?_
 refine aa rfl (eh rfl (by constructor)) ?_
 refine mp ?_
 dsimp only [St.put]
 refine hK2 _ ?_
 refine aj ?_
 refine ay rfl (by constructor) zN zS ?_
 rfl
end Go.Proofs.YtjjklfgpffgnfabGreatDoor
