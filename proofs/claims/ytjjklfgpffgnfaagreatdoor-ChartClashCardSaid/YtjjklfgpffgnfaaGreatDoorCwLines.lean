/-
 The iterator over the lines of a text.
-/
import Derived.Test.YtjjklfgpffgnfaaGreatDoorCvOpen
import Derived.Test.YtjjklfgpffgnfaaGreatDoorItData
namespace Go.AB
open Go Go.RowKit
open Go.AB.Enc (cells)
open Go.PB (bv ai PlaceD cy c6 cz)
theorem uh4 {L : Nat → Nat} {W : World} {v : Value} {rows : List (List C)} {tok : Tok} (h : Known L W v (.list rows tok)) : ∃ a cap, v = .slice a rows.length cap := by
 obtain ⟨a, cap, _, _, e, _⟩ := R.list_inv (h (itE L) W (fun _ => Nat.le_refl _) fun _ _ _ => rfl)
 exact ⟨a, cap, e⟩
theorem TextX.later {L : Nat → Nat} {w W : World} {t : ai} {V : Value} {lv : Nat → Value} {wv : Nat → Nat → Value} (h : TextX L w t V lv wv) (hc : ∀ b i, i < L b → W.cell? ⟨b, i, none⟩ = w.cell? ⟨b, i, none⟩) : TextX L W t V lv wv :=
 ⟨h.top.later hc, h.len, fun k c hk => ⟨(h.lines k c hk).1.later hc, (h.lines k c hk).2⟩, fun k c n l hk hn => ⟨(h.words k c n l hk hn).1.later hc, (h.words k c n l hk hn).2⟩⟩
/-- All lines, with the values of their words. -/
abbrev LV := L2 × Value
def ne (k : Nat) (f : Nat → Value) (ls : List (List ByteArray)) : List LV := ls.mapIdx fun n _ => (((k : Int), (n : Int)), f n)
def l5 (t : ai) (wv : Nat → Nat → Value) : List LV := (t.mapIdx fun k c => ne k (wv k) c.lines).flatten
theorem uat (k : Nat) (f : Nat → Value) {ls : List (List ByteArray)} {n : Nat} {l : List ByteArray} (h : ls[n]? = some l) : ne k f (ls.take (n + 1)) = ne k f (ls.take n) ++ [(((k : Int), (n : Int)), f n)] := vp h
theorem udd (wv : Nat → Nat → Value) {t : ai} {k : Nat} {c : bv} (h : t[k]? = some c) : l5 (t.take (k + 1)) wv = l5 (t.take k) wv ++ ne k (wv k) c.lines := by
 unfold l5
 rw [vp h, List.flatten_append]; simp
theorem udy (wv : Nat → Nat → Value) {t : ai} {k : Nat} {c : bv} (hc : t[k]? = some c) (n : Nat) : l5 (t.take k) wv ++ ne k (wv k) (c.lines.take n) <+: l5 t wv := by
 refine List.IsPrefix.trans ?_ (ui3 (ual _ _ (k + 1)))
 show _ <+: l5 (t.take (k + 1)) wv
 rw [udd wv hc]
 exact (List.prefix_append_right_inj _).2 (ual _ _ n)
theorem umf (t : ai) (wv : Nat → Nat → Value) : (l5 t wv).map (·.1) = d9 t := by
 unfold l5 d9
 rw [List.map_flatten, s7]
 congr 2
 funext k c
 unfold ne
 rw [s7]
def encL (x : LV) : List Value := [.agg #[.int .i64 x.1.1, .int .i64 x.1.2], x.2]
def clL (x : LV) : List C := [.agg [.v (.int .i64 x.1.1), .v (.int .i64 x.1.2)], .v x.2]
theorem ujr {E : Env} {W : World} {k n : Int} {v : Value} {vs : List Value} (h : Rs E W [.agg [.v (.int .i64 k), .v (.int .i64 n)], .v v] vs) : vs = encL ((k, n), v) := by
 match vs, h with
 | [a, b], h =>
  have e2 := (h.2 1 _ _ rfl rfl).v_inv
  obtain ⟨us, e1, hu, _⟩ := (h.2 0 _ _ rfl rfl).agg_inv
  match us, hu with
  | [x, y], hu =>
   have q1 := (hu.2 0 _ _ rfl rfl).v_inv
   have q2 := (hu.2 1 _ _ rfl rfl).v_inv
   subst q1; subst q2; subst e1; subst e2; rfl
  | [], hu => exact absurd hu.1 (by simp)
  | [_], hu => exact absurd hu.1 (by simp)
  | _ :: _ :: _ :: _, hu => exact absurd hu.1 (by simp)
 | [], h => exact absurd h.1 (by simp)
 | [_], h => exact absurd h.1 (by simp)
 | _ :: _ :: _ :: _, h => exact absurd h.1 (by simp)
/-- What is known of the lines that come. -/
structure LinesX (t : ai) (xs : List LV) : Prop where
 fst : xs.map (·.1) = d9 t
 at' : ∀ x ∈ xs, ∃ (k n : Nat) (c : bv) (l : List ByteArray) (a : Option Addr) (cap : Nat), x = (((k : Int), (n : Int)), .slice a l.length cap) ∧ t[k]? = some c ∧ c.lines[n]? = some l
 ok : t.length ≤ 9223372036854775807 ∧ ∀ c ∈ t, c.lines.length ≤ 9223372036854775807 ∧ ∀ l ∈ c.lines, l.length ≤ 9223372036854775807
theorem LinesX.cl {t : ai} {xs : List LV} (h : LinesX t xs) : ∀ x ∈ xs, ∀ E W, Rs E W (clL x) (encL x) := fun x hx E W => by
 obtain ⟨k, n, c, l, a, cap, rfl, hc, hl⟩ := h.at' x hx
 have h1 := (List.getElem?_eq_some_iff.1 hc).1
 have h2 := (List.getElem?_eq_some_iff.1 hl).1
 have h3 := (h.ok.2 c (List.mem_of_getElem? hc)).1
 have h4 := h.ok.1
 exact Rs.cons ((Rs.cons (.v (j0 (n := (k : Int)) ⟨by omega, by omega⟩)) (Rs.cons (.v (j0 (n := (n : Int)) ⟨by omega, by omega⟩)) Rs.nil)).agg (by intro c hc; simp only [List.mem_cons, List.not_mem_nil, or_false] at hc; rcases hc with rfl | rfl <;> rfl)) (Rs.cons (.v rfl) Rs.nil)
theorem Rs.five {E : Env} {w : World} {c1 c2 c3 c4 c5 : C} {vs : List Value} (h : Rs E w [c1, c2, c3, c4, c5] vs) : ∃ v1 v2 v3 v4 v5, vs = [v1, v2, v3, v4, v5] := by
 match vs, h with
 | [a, b, c, d, e], _ => exact ⟨a, b, c, d, e, rfl⟩
 | [], h => exact absurd h.1 (by simp)
 | [_], h => exact absurd h.1 (by simp)
 | [_, _], h => exact absurd h.1 (by simp)
 | [_, _, _], h => exact absurd h.1 (by simp)
 | [_, _, _, _], h => exact absurd h.1 (by simp)
 | _ :: _ :: _ :: _ :: _ :: _ :: _, h => exact absurd h.1 (by simp)
theorem Rs.one' {E : Env} {w : World} {c1 : C} {vs : List Value} (h : Rs E w [c1] vs) : ∃ v1, vs = [v1] := by
 match vs, h with
 | [a], _ => exact ⟨a, rfl⟩
 | [], h => exact absurd h.1 (by simp)
 | _ :: _ :: _, h => exact absurd h.1 (by simp)
end Go.AB
namespace Go.Proofs.YtjjklfgpffgnfaaGreatDoor
set_option maxRecDepth 10000
open Go.RowKit Go.AB
open Go.AB.Enc (cells)
open Go.PB (bv ai PlaceD cy c6 cz)
theorem vv (t : ai) (e : av) (n m : Nat) : xw Tryz.prog 85 [.elem [.elem (gi t e n m)]] (LinesX t) encL := by
 refine uid Tryz.func85 rfl rfl (by simp [C.one]) fun E w lb hr => ?_
 obtain ⟨b, rfl⟩ := hr.one'
 obtain ⟨vs1, h1, hq1⟩ := (hr.2 0 _ _ rfl rfl).elem_exact
 obtain ⟨v1, rfl⟩ := hq1.one'
 obtain ⟨vs2, h2, hq2⟩ := (hq1.2 0 _ _ rfl rfl).elem_exact
 obtain ⟨a1, a2, V, a4, a5, rfl⟩ := Rs.five hq2
 have h3 : R E w (lst t) V := hq2.2 2 _ _ rfl rfl
 have k1 : Known E.L w b (.elem [.v v1]) := Known.of (E := E.drop 0) rfl (h1.drop (.elem fun c hc => by simp at hc; subst hc; exact .v))
 have k2 : Known E.L w v1 (.elem [.v a1, .v a2, .v V, .v a4, .v a5]) := Known.of (E := E.drop 0) rfl (h2.drop (.elem fun c hc => by simp at hc; rcases hc with rfl | rfl | rfl | rfl | rfl <;> exact .v))
 obtain ⟨lv, wv, hX0⟩ := ued (E := E.drop 0) rfl (h3.drop (bh _ _))
 replace hX0 : TextX E.L w t V lv wv := hX0
 refine ⟨l5 t wv, ⟨umf t wv, fun x hx => ?_, hX0.len, fun c hc => ?_⟩, fun W lx J Jx hcell ok => ?_⟩
 ·unfold l5 at hx
  obtain ⟨ys, hys, hx⟩ := List.mem_flatten.1 hx
  obtain ⟨k, hk, rfl⟩ := List.mem_mapIdx.1 hys
  unfold ne at hx
  obtain ⟨n, hn, rfl⟩ := List.mem_mapIdx.1 hx
  obtain ⟨a, cap, e1⟩ := uh4 (hX0.words k _ n _ (List.getElem?_eq_getElem hk) (List.getElem?_eq_getElem hn)).1
  rw [List.length_map] at e1
  exact ⟨k, n, _, _, a, cap, by rw [e1], List.getElem?_eq_getElem hk, List.getElem?_eq_getElem hn⟩
 ·obtain ⟨k, hk⟩ := List.getElem?_of_mem hc
  refine ⟨(hX0.lines k c hk).2, fun l hl => ?_⟩
  obtain ⟨n, hn⟩ := List.getElem?_of_mem hl
  exact (hX0.words k c n l hk hn).2
 have hX := hX0.later hcell
 have hlen := hX0.len
 replace k1 := k1.later hcell
 replace k2 := k2.later hcell
 simp only [Tryz.ntmps85]
 dsimp only [List.length_cons, List.length_nil, List.map_cons, List.map_nil, Nat.reduceAdd, Nat.reduceSub]
 refine nh fun K1 hK1 => ?_
 refine p6 ok [(b, .elem [.v v1]), (v1, .elem [.v a1, .v a2, .v V, .v a4, .v a5]), (V, .list (t.mapIdx fun k c => [.v (.int .i64 c.id), .v (lv k)]) .none)] (qb k1 (qb k2 (qb hX.top w4))) ?_
 dsimp only [lh]
 refine dl ?_
 try dsimp only [St.put]
 refine af rfl (uex 1 0 rfl rfl (a7 rfl rfl)) ?_
 refine aa rfl (qz 7 1 rfl rfl (iq rfl rfl)) ?_
 refine aa rfl (b9 rfl rfl rfl) ?_
 refine aa rfl (b9 rfl rfl rfl) ?_
 try dsimp only [St.put]
 refine af rfl (a7 rfl rfl) ?_
 refine aa rfl (qz 11 2 rfl rfl (ck (k := t.length) rfl rfl List.length_mapIdx)) ?_
 refine aa rfl (a8 rfl (by constructor)) ?_
 refine cx ?_
 refine ⟨rfl, ?_⟩
 dsimp only [St.put, kb, List.map, exC]
 refine hK1 _ _ ?_
 refine tf ?_
 refine ua6 14 ?_
 simp only [dj, bq, Nat.reduceAdd, List.getD_cons_zero, List.getD_cons_succ, List.getD_nil, dw, Nat.reduceBEq, cond_true, cond_false]
 refine ua7 (X := Nat) (fun k => k ≤ t.length) (fun k => t.length - k) (fun k => [(13, .v (.int .i64 (k : Int)))]) (fun k => (false, l5 (t.take k) wv)) 0 rfl ?_ ?_ ?_ ?_
 ·exact Nat.zero_le _
 ·exact zF
 ·rfl
 rintro k hI
 dsimp only at hI ⊢
 refine nh fun K2 hK2 => ?_
 refine p6 ok [] (fun p hp => by cases hp) ?_
 dsimp only [lh]
 refine dl ?_
 refine aa rfl (cr rfl rfl rfl) ?_
 refine cx ?_
 refine ⟨rfl, ?_⟩
 dsimp only [St.put, kb, List.map, exC]
 refine hK2 _ _ ?_
 refine nh fun K3 hK3 => ?_
 refine te rfl (fun hc => ?_) (fun hc => ?_)
 ·replace hc := of_decide_eq_true hc
  obtain ⟨c, hk⟩ : ∃ c, t[k]? = some c := ⟨_, List.getElem?_eq_getElem (by omega)⟩
  have hk' : (t.mapIdx fun k c => [C.v (.int .i64 c.id), C.v (lv k)])[k]? = some [.v (.int .i64 c.id), .v (lv k)] := by rw [List.getElem?_mapIdx, hk]; rfl
  obtain ⟨hl1, hl2⟩ := hX.lines k c hk
  refine v8 ?_
  refine hK3 _ _ ?_
  refine nh fun K4 hK4 => ?_
  refine tf ?_
  refine uia ok [(V, .list (t.mapIdx fun k c => [.v (.int .i64 c.id), .v (lv k)]) .none), (lv k, .list (c.lines.mapIdx fun n _ => [.v (wv k n)]) .none)] (qb hX.top (qb hl1 w4)) ?_
  dsimp only [lh]
  refine dl ?_
  refine aa rfl (a8 rfl (by constructor)) ?_
  try dsimp only [St.put]
  refine aa rfl (qz 11 0 rfl rfl (b7 rfl rfl rfl rfl hk' rfl)) ?_
  try dsimp only [St.put]
  refine af rfl (aq rfl rfl rfl) ?_
  try dsimp only [St.put]
  refine ae rfl (bp rfl ?_)
  refine aa rfl (cg rfl (by constructor)) ?_
  try dsimp only [St.put]
  refine ae rfl (ay rfl rfl rfl zG rfl rfl (by rfl) ?_)
  refine cx ?_
  dsimp only [St.put]
  refine dl ?_
  refine aa rfl (ge rfl rfl) ?_
  try dsimp only [St.put]
  refine af rfl (dd rfl rfl zG trivial (by first | rfl | assumption)) ?_
  refine aa rfl (qz 19 1 rfl rfl (ck (k := c.lines.length) rfl rfl List.length_mapIdx)) ?_
  refine aa rfl (a8 rfl (by constructor)) ?_
  refine cx ?_
  refine ⟨rfl, ?_⟩
  dsimp only [St.put, kb, List.map, exC]
  refine tf ?_
  refine ua6 22 ?_
  simp only [dj, bq, Nat.reduceAdd, List.getD_cons_zero, List.getD_cons_succ, List.getD_nil, dw, Nat.reduceBEq, cond_true, cond_false]
  refine ua7 (X := Nat) (fun n => n ≤ c.lines.length) (fun n => c.lines.length - n) (fun n => [(21, .v (.int .i64 (n : Int)))]) (fun n => (false, l5 (t.take k) wv ++ ne k (wv k) (c.lines.take n))) 0 rfl ?_ ?_ ?_ ?_
  ·exact Nat.zero_le _
  ·exact zF
  ·simp [ne]
  rintro n hI
  dsimp only at hI ⊢
  refine nh fun K6 hK6 => ?_
  refine p6 ok [] (fun p hp => by cases hp) ?_
  dsimp only [lh]
  refine dl ?_
  refine aa rfl (cr rfl rfl rfl) ?_
  refine cx ?_
  refine ⟨rfl, ?_⟩
  dsimp only [St.put, kb, List.map, exC]
  refine hK6 _ _ ?_
  refine nh fun K7 hK7 => ?_
  refine te rfl (fun hc => ?_) (fun hc => ?_)
  ·replace hc := of_decide_eq_true hc
   obtain ⟨l, hn⟩ : ∃ l, c.lines[n]? = some l := ⟨_, List.getElem?_eq_getElem (by omega)⟩
   have hn' : (c.lines.mapIdx fun n _ => [C.v (wv k n)])[n]? = some [.v (wv k n)] := by rw [List.getElem?_mapIdx, hn]; rfl
   have hpre := udy wv hk (n + 1)
   rw [uat k (wv k) hn, ← List.append_assoc] at hpre
   refine v8 ?_
   refine hK7 _ _ ?_
   refine nh fun K8 hK8 => ?_
   refine tf ?_
   refine nh fun K9 hK9 => ?_
   refine p6 ok [(lv k, .list (c.lines.mapIdx fun n _ => [.v (wv k n)]) .none)] (qb hl1 w4) ?_
   dsimp only [lh]
   refine dl ?_
   refine aa rfl (a8 rfl (by constructor)) ?_
   try dsimp only [St.put]
   refine aa rfl (qz 19 0 rfl rfl (b7 rfl rfl rfl rfl hn' rfl)) ?_
   try dsimp only [St.put]
   refine af rfl (a7 rfl rfl) ?_
   refine aa rfl (cg rfl (by constructor)) ?_
   refine aa rfl (cg rfl (by constructor)) ?_
   refine cx ?_
   refine ⟨rfl, ?_⟩
   dsimp only [St.put, kb, List.map, exC]
   refine hK9 _ _ ?_
   refine nh fun K10 hK10 => ?_
   refine uic ?_
   refine ox rfl (a8 rfl (by constructor)) ?_
   refine ox rfl (a8 rfl (by constructor)) ?_
   refine ox rfl (a8 rfl (by constructor)) ?_
   refine ox rfl (ir rfl rfl) ?_
   refine ox rfl (a8 rfl (by constructor)) ?_
   try dsimp only [St.put]
   refine uig ok (x := ((((k : Int), (n : Int)), wv k n) : LV)) (hpre.subset (by simp)) rfl rfl rfl rfl (fun E W vs h => ujr h) (Nat.lt_of_lt_of_le (by simp) hpre.length_le) ?_ ?_
   ·refine ox rfl (dn rfl rfl) ?_
    refine uba ?_
    dsimp only [St.put]
    refine hK10 _ _ ?_
    refine te rfl (fun h => by cases h) (fun _ => ?_)
    refine v8 ?_
    refine hK8 _ _ ?_
    refine p6 ok [] (fun p hp => by cases hp) ?_
    dsimp only [lh]
    refine dl ?_
    refine aa rfl (bw rfl rfl rfl (by omega)) ?_
    refine aa rfl (a8 rfl (by constructor)) ?_
    refine cx ?_
    refine ⟨rfl, ?_⟩
    dsimp only [St.put, kb, List.map, exC]
    exact ⟨n + 1, by omega, by omega, by rw [uat k (wv k) hn, List.append_assoc], rfl, rfl, ⟨⟨rfl, rfl⟩, zF, zB, zN, zX⟩⟩
   dsimp only [St.put, kb, List.map, exC]
   refine ox rfl (dn rfl rfl) ?_
   refine uba ?_
   dsimp only [St.put]
   refine hK10 _ _ ?_
   refine te rfl (fun _ => ?_) (fun h => by cases h)
   refine uib ?_
   exact uip (st := ⟨0, [], [], noG, 0, 0⟩) hpre
  replace hc := of_decide_eq_false hc
  obtain rfl : n = c.lines.length := by omega
  refine ua8 ?_
  refine hK4 _ _ ?_
  refine p6 ok [] (fun p hp => by cases hp) ?_
  dsimp only [lh]
  refine dl ?_
  refine aa rfl (bw rfl rfl rfl (by omega)) ?_
  refine aa rfl (a8 rfl (by constructor)) ?_
  refine cx ?_
  refine ⟨rfl, ?_⟩
  dsimp only [St.put, kb, List.map, exC]
  exact ⟨k + 1, by omega, by omega, by rw [udd wv hk, List.take_length], rfl, rfl, ⟨⟨rfl, rfl⟩, zF, zB, zN, zX⟩⟩
 replace hc := of_decide_eq_false hc
 obtain rfl : k = t.length := by omega
 refine ua8 ?_
 exact uiq (st := ⟨0, [], [], noG, 0, 0⟩) (by rw [List.take_length])
theorem vu (t : ai) (e : av) (n m : Nat) (G : Nat → Option GObj) (nx : Nat) (hn : n < nx) (hm : m < nx) : PC Tryz.prog 54 [.elem (gi t e n m)] G nx fun r' G' nx' => r' = .fn (.func 85) [.elem [.elem (gi t e n m)]] ∧ G' = G ∧ nx' = nx := by
 refine l8 (G) (nx) Tryz.func54 rfl (.fn (ar (.elem (ar (.elem (ar .v (ar (bh _ _) (ar (bh _ _) (ar (.map hn) (ar (.map hm) bl)))))) bl)) bl)) zN (fun hlt => zH) ?_
 simp only [Tryz.ntmps54, List.length_cons, List.length_nil, Nat.reduceAdd, Nat.reduceSub]
 refine bi fun hlt => ?_
 dsimp only at hlt
 refine e8 fun K1 hK1 => ?_
 refine dl ?_
 try dsimp only [St.put]
 refine ae rfl (o9 rfl rfl (by simp) ?_)
 refine aa rfl (cg rfl (by constructor)) ?_
 refine cx ?_
 dsimp only [St.put]
 refine hK1 _ ?_
 refine e8 fun K2 hK2 => ?_
 refine dl ?_
 refine aa rfl (m8 rfl rfl) ?_
 refine aa rfl (cg rfl (by constructor)) ?_
 refine cx ?_
 dsimp only [St.put]
 refine hK2 _ ?_
 refine am ?_
 refine bf rfl (by constructor) zN zS ?_
 rfl
end Go.Proofs.YtjjklfgpffgnfaaGreatDoor
