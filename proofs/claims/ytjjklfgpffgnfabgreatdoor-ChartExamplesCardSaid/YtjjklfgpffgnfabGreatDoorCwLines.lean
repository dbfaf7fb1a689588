/-
 The iterator over the lines of a text.
-/
import Derived.Test.YtjjklfgpffgnfabGreatDoorCvOpen
import Derived.Test.YtjjklfgpffgnfabGreatDoorItData
namespace Go.AB
open Go Go.RowKit
open Go.AB.Enc (cells)
open Go.PB (Chap TextD PlaceD ReadingD CopyD WayD)
theorem known_slice {L : Nat → Nat} {W : World} {v : Value} {rows : List (List C)} {tok : Tok} (h : Known L W v (.list rows tok)) : ∃ a cap, v = .slice a rows.length cap := by
 obtain ⟨a, cap, _, _, e, _⟩ := R.list_inv (h (itE L) W (fun _ => Nat.le_refl _) fun _ _ _ => rfl)
 exact ⟨a, cap, e⟩
theorem TextX.later {L : Nat → Nat} {w W : World} {t : TextD} {V : Value} {lv : Nat → Value} {wv : Nat → Nat → Value} (h : TextX L w t V lv wv) (hc : ∀ b i, i < L b → W.cell? ⟨b, i, none⟩ = w.cell? ⟨b, i, none⟩) : TextX L W t V lv wv :=
 ⟨h.top.later hc, h.len, fun k c hk => ⟨(h.lines k c hk).1.later hc, (h.lines k c hk).2⟩, fun k c n l hk hn => ⟨(h.words k c n l hk hn).1.later hc, (h.words k c n l hk hn).2⟩⟩
/-- All lines, with the values of their words. -/
abbrev LV := L2 × Value
def lineV (k : Nat) (f : Nat → Value) (ls : List (List ByteArray)) : List LV := ls.mapIdx fun n _ => (((k : Int), (n : Int)), f n)
def allV (t : TextD) (wv : Nat → Nat → Value) : List LV := (t.mapIdx fun k c => lineV k (wv k) c.lines).flatten
theorem lineV_succ (k : Nat) (f : Nat → Value) {ls : List (List ByteArray)} {n : Nat} {l : List ByteArray} (h : ls[n]? = some l) : lineV k f (ls.take (n + 1)) = lineV k f (ls.take n) ++ [(((k : Int), (n : Int)), f n)] := mapIdx_take_succ h
theorem allV_succ (wv : Nat → Nat → Value) {t : TextD} {k : Nat} {c : Chap} (h : t[k]? = some c) : allV (t.take (k + 1)) wv = allV (t.take k) wv ++ lineV k (wv k) c.lines := by
 unfold allV
 rw [mapIdx_take_succ h, List.flatten_append]; simp
theorem upV_prefix (wv : Nat → Nat → Value) {t : TextD} {k : Nat} {c : Chap} (hc : t[k]? = some c) (n : Nat) : allV (t.take k) wv ++ lineV k (wv k) (c.lines.take n) <+: allV t wv := by
 refine List.IsPrefix.trans ?_ (flatten_prefix (mapIdx_take_prefix _ _ (k + 1)))
 show _ <+: allV (t.take (k + 1)) wv
 rw [allV_succ wv hc]
 exact (List.prefix_append_right_inj _).2 (mapIdx_take_prefix _ _ n)
theorem allV_fst (t : TextD) (wv : Nat → Nat → Value) : (allV t wv).map (·.1) = linesT t := by
 unfold allV linesT
 rw [List.map_flatten, map_mapIdx']
 congr 2
 funext k c
 unfold lineV
 rw [map_mapIdx']
def encL (x : LV) : List Value := [.agg #[.int .i64 x.1.1, .int .i64 x.1.2], x.2]
def clL (x : LV) : List C := [.agg [.v (.int .i64 x.1.1), .v (.int .i64 x.1.2)], .v x.2]
theorem encL_of {E : Env} {W : World} {k n : Int} {v : Value} {vs : List Value} (h : Rs E W [.agg [.v (.int .i64 k), .v (.int .i64 n)], .v v] vs) : vs = encL ((k, n), v) := by
 match vs, h with
 | [a, b], h =>
  have e2 := (h.2 1 _ _ rfl rfl).v_inv
  obtain ⟨us, e1, hu, _⟩ := (h.2 0 _ _ rfl rfl).agg_inv
  match us, hu with
  | [x, y], hu =>
   have q1 := (hu.2 0 _ _ rfl rfl).v_inv
   have q2 := (hu.2 1 _ _ rfl rfl).v_inv
   subst q1; subst q2; subst e1; subst e2; rfl
  | [], hu => exact absurd hu.1 (by simp)
  | [_], hu => exact absurd hu.1 (by simp)
  | _ :: _ :: _ :: _, hu => exact absurd hu.1 (by simp)
 | [], h => exact absurd h.1 (by simp)
 | [_], h => exact absurd h.1 (by simp)
 | _ :: _ :: _ :: _, h => exact absurd h.1 (by simp)
/-- What is known of the lines that come. -/
structure LinesX (t : TextD) (xs : List LV) : Prop where
 fst : xs.map (·.1) = linesT t
 at' : ∀ x ∈ xs, ∃ (k n : Nat) (c : Chap) (l : List ByteArray) (a : Option Addr) (cap : Nat), x = (((k : Int), (n : Int)), .slice a l.length cap) ∧ t[k]? = some c ∧ c.lines[n]? = some l
 ok : t.length ≤ 9223372036854775807 ∧ ∀ c ∈ t, c.lines.length ≤ 9223372036854775807 ∧ ∀ l ∈ c.lines, l.length ≤ 9223372036854775807
theorem LinesX.cl {t : TextD} {xs : List LV} (h : LinesX t xs) : ∀ x ∈ xs, ∀ E W, Rs E W (clL x) (encL x) := fun x hx E W => by
 obtain ⟨k, n, c, l, a, cap, rfl, hc, hl⟩ := h.at' x hx
 have h1 := (List.getElem?_eq_some_iff.1 hc).1
 have h2 := (List.getElem?_eq_some_iff.1 hl).1
 have h3 := (h.ok.2 c (List.mem_of_getElem? hc)).1
 have h4 := h.ok.1
 exact Rs.cons ((Rs.cons (.v (okV_i64 (n := (k : Int)) ⟨by omega, by omega⟩)) (Rs.cons (.v (okV_i64 (n := (n : Int)) ⟨by omega, by omega⟩)) Rs.nil)).agg (by intro c hc; simp only [List.mem_cons, List.not_mem_nil, or_false] at hc; rcases hc with rfl | rfl <;> rfl)) (Rs.cons (.v rfl) Rs.nil)
theorem Rs.five {E : Env} {w : World} {c1 c2 c3 c4 c5 : C} {vs : List Value} (h : Rs E w [c1, c2, c3, c4, c5] vs) : ∃ v1 v2 v3 v4 v5, vs = [v1, v2, v3, v4, v5] := by
 match vs, h with
 | [a, b, c, d, e], _ => exact ⟨a, b, c, d, e, rfl⟩
 | [], h => exact absurd h.1 (by simp)
 | [_], h => exact absurd h.1 (by simp)
 | [_, _], h => exact absurd h.1 (by simp)
 | [_, _, _], h => exact absurd h.1 (by simp)
 | [_, _, _, _], h => exact absurd h.1 (by simp)
 | _ :: _ :: _ :: _ :: _ :: _ :: _, h => exact absurd h.1 (by simp)
theorem Rs.one' {E : Env} {w : World} {c1 : C} {vs : List Value} (h : Rs E w [c1] vs) : ∃ v1, vs = [v1] := by
 match vs, h with
 | [a], _ => exact ⟨a, rfl⟩
 | [], h => exact absurd h.1 (by simp)
 | _ :: _ :: _, h => exact absurd h.1 (by simp)
end Go.AB
namespace Go.Proofs.YtjjklfgpffgnfabGreatDoor
set_option maxRecDepth 10000
open Go.RowKit Go.AB
open Go.AB.Enc (cells)
open Go.PB (Chap TextD PlaceD ReadingD CopyD WayD)
theorem lines_iter (t : TextD) (e : EditionD) (n m : Nat) : IterX Tryz.prog 76 [.elem [.elem (bookC t e n m)]] (LinesX t) encL := by
 refine iterX_of_body Tryz.func76 rfl rfl (by simp [C.one]) fun E w lb hr => ?_
 obtain ⟨b, rfl⟩ := hr.one'
 obtain ⟨vs1, h1, hq1⟩ := (hr.2 0 _ _ rfl rfl).elem_exact
 obtain ⟨v1, rfl⟩ := hq1.one'
 obtain ⟨vs2, h2, hq2⟩ := (hq1.2 0 _ _ rfl rfl).elem_exact
 obtain ⟨a1, a2, V, a4, a5, rfl⟩ := Rs.five hq2
 have h3 : R E w (lst t) V := hq2.2 2 _ _ rfl rfl
 have k1 : Known E.L w b (.elem [.v v1]) := Known.of (E := E.drop 0) rfl (h1.drop (.elem fun c hc => by simp at hc; subst hc; exact .v))
 have k2 : Known E.L w v1 (.elem [.v a1, .v a2, .v V, .v a4, .v a5]) := Known.of (E := E.drop 0) rfl (h2.drop (.elem fun c hc => by simp at hc; rcases hc with rfl | rfl | rfl | rfl | rfl <;> exact .v))
 obtain ⟨lv, wv, hX0⟩ := textX_of (E := E.drop 0) rfl (h3.drop (lst_low _ _))
 replace hX0 : TextX E.L w t V lv wv := hX0
 refine ⟨allV t wv, ⟨allV_fst t wv, fun x hx => ?_, hX0.len, fun c hc => ?_⟩, fun W lx J Jx hcell ok => ?_⟩
 ·unfold allV at hx
  obtain ⟨ys, hys, hx⟩ := List.mem_flatten.1 hx
  obtain ⟨k, hk, rfl⟩ := List.mem_mapIdx.1 hys
  unfold lineV at hx
  obtain ⟨n, hn, rfl⟩ := List.mem_mapIdx.1 hx
  obtain ⟨a, cap, e1⟩ := known_slice (hX0.words k _ n _ (List.getElem?_eq_getElem hk) (List.getElem?_eq_getElem hn)).1
  rw [List.length_map] at e1
  exact ⟨k, n, _, _, a, cap, by rw [e1], List.getElem?_eq_getElem hk, List.getElem?_eq_getElem hn⟩
 ·obtain ⟨k, hk⟩ := List.getElem?_of_mem hc
  refine ⟨(hX0.lines k c hk).2, fun l hl => ?_⟩
  obtain ⟨n, hn⟩ := List.getElem?_of_mem hl
  exact (hX0.words k c n l hk hn).2
 have hX := hX0.later hcell
 have hlen := hX0.len
 replace k1 := k1.later hcell
 replace k2 := k2.later hcell
 simp only [Tryz.ntmps76]
 dsimp only [List.length_cons, List.length_nil, List.map_cons, List.map_nil, Nat.reduceAdd, Nat.reduceSub]
 refine iw_seq_k fun K1 hK1 => ?_
 refine iw_seg ok [(b, .elem [.v v1]), (v1, .elem [.v a1, .v a2, .v V, .v a4, .v a5]), (V, .list (t.mapIdx fun k c => [.v (.int .i64 c.id), .v (lv k)]) .none)] (facts_cons k1 (facts_cons k2 (facts_cons hX.top facts_nil))) ?_
 dsimp only [segSt]
 refine aw_region ?_
 try dsimp only [St.put]
 refine aops_s rfl (sstep_know 1 0 rfl rfl (s_load rfl rfl)) ?_
 refine aops_n rfl (nstep_know 7 1 rfl rfl (n_nilCheck rfl rfl)) ?_
 refine aops_n rfl (n_fieldAddr' rfl rfl rfl) ?_
 refine aops_n rfl (n_fieldAddr' rfl rfl rfl) ?_
 try dsimp only [St.put]
 refine aops_s rfl (s_load rfl rfl) ?_
 refine aops_n rfl (nstep_know 11 2 rfl rfl (n_len' (k := t.length) rfl rfl List.length_mapIdx)) ?_
 refine aops_n rfl (n_mv rfl (by constructor)) ?_
 refine aops_nil ?_
 refine ⟨rfl, ?_⟩
 dsimp only [St.put, exSt, List.map, exC]
 refine hK1 _ _ ?_
 refine iw_block ?_
 refine iw_wipe 14 ?_
 simp only [firsts, getA, Nat.reduceAdd, List.getD_cons_zero, List.getD_cons_succ, List.getD_nil, natBeq, Nat.reduceBEq, cond_true, cond_false]
 refine iw_loop (X := Nat) (fun k => k ≤ t.length) (fun k => t.length - k) (fun k => [(13, .v (.int .i64 (k : Int)))]) (fun k => (false, allV (t.take k) wv)) 0 rfl ?_ ?_ ?_ ?_
 ·exact Nat.zero_le _
 ·exact zF
 ·rfl
 rintro k hI
 dsimp only at hI ⊢
 refine iw_seq_k fun K2 hK2 => ?_
 refine iw_seg ok [] (fun p hp => by cases hp) ?_
 dsimp only [segSt]
 refine aw_region ?_
 refine aops_n rfl (n_lss rfl rfl rfl) ?_
 refine aops_nil ?_
 refine ⟨rfl, ?_⟩
 dsimp only [St.put, exSt, List.map, exC]
 refine hK2 _ _ ?_
 refine iw_seq_k fun K3 hK3 => ?_
 refine iw_cond rfl (fun hc => ?_) (fun hc => ?_)
 ·replace hc := of_decide_eq_true hc
  obtain ⟨c, hk⟩ : ∃ c, t[k]? = some c := ⟨_, List.getElem?_eq_getElem (by omega)⟩
  have hk' : (t.mapIdx fun k c => [C.v (.int .i64 c.id), C.v (lv k)])[k]? = some [.v (.int .i64 c.id), .v (lv k)] := by rw [List.getElem?_mapIdx, hk]; rfl
  obtain ⟨hl1, hl2⟩ := hX.lines k c hk
  refine iw_skip ?_
  refine hK3 _ _ ?_
  refine iw_seq_k fun K4 hK4 => ?_
  refine iw_block ?_
  refine iw_seg2 ok [(V, .list (t.mapIdx fun k c => [.v (.int .i64 c.id), .v (lv k)]) .none), (lv k, .list (c.lines.mapIdx fun n _ => [.v (wv k n)]) .none)] (facts_cons hX.top (facts_cons hl1 facts_nil)) ?_
  dsimp only [segSt]
  refine aw_region ?_
  refine aops_n rfl (n_mv rfl (by constructor)) ?_
  try dsimp only [St.put]
  refine aops_n rfl (nstep_know 11 0 rfl rfl (n_indexAddr rfl rfl rfl rfl hk' rfl)) ?_
  try dsimp only [St.put]
  refine aops_s rfl (s_load_agg' rfl rfl rfl) ?_
  try dsimp only [St.put]
  refine aops_e rfl (e_allocC rfl ?_)
  refine aops_n rfl (n_as rfl (by constructor)) ?_
  try dsimp only [St.put]
  refine aops_e rfl (e_store_all rfl rfl rfl zG rfl rfl (by rfl) ?_)
  refine aops_nil ?_
  dsimp only [St.put]
  refine aw_region ?_
  refine aops_n rfl (n_fieldAddr_box rfl rfl) ?_
  try dsimp only [St.put]
  refine aops_s rfl (s_load_box rfl rfl zG trivial (by first | rfl | assumption)) ?_
  refine aops_n rfl (nstep_know 19 1 rfl rfl (n_len' (k := c.lines.length) rfl rfl List.length_mapIdx)) ?_
  refine aops_n rfl (n_mv rfl (by constructor)) ?_
  refine aops_nil ?_
  refine ⟨rfl, ?_⟩
  dsimp only [St.put, exSt, List.map, exC]
  refine iw_block ?_
  refine iw_wipe 22 ?_
  simp only [firsts, getA, Nat.reduceAdd, List.getD_cons_zero, List.getD_cons_succ, List.getD_nil, natBeq, Nat.reduceBEq, cond_true, cond_false]
  refine iw_loop (X := Nat) (fun n => n ≤ c.lines.length) (fun n => c.lines.length - n) (fun n => [(21, .v (.int .i64 (n : Int)))]) (fun n => (false, allV (t.take k) wv ++ lineV k (wv k) (c.lines.take n))) 0 rfl ?_ ?_ ?_ ?_
  ·exact Nat.zero_le _
  ·exact zF
  ·simp [lineV]
  rintro n hI
  dsimp only at hI ⊢
  refine iw_seq_k fun K6 hK6 => ?_
  refine iw_seg ok [] (fun p hp => by cases hp) ?_
  dsimp only [segSt]
  refine aw_region ?_
  refine aops_n rfl (n_lss rfl rfl rfl) ?_
  refine aops_nil ?_
  refine ⟨rfl, ?_⟩
  dsimp only [St.put, exSt, List.map, exC]
  refine hK6 _ _ ?_
  refine iw_seq_k fun K7 hK7 => ?_
  refine iw_cond rfl (fun hc => ?_) (fun hc => ?_)
  ·replace hc := of_decide_eq_true hc
   obtain ⟨l, hn⟩ : ∃ l, c.lines[n]? = some l := ⟨_, List.getElem?_eq_getElem (by omega)⟩
   have hn' : (c.lines.mapIdx fun n _ => [C.v (wv k n)])[n]? = some [.v (wv k n)] := by rw [List.getElem?_mapIdx, hn]; rfl
   have hpre := upV_prefix wv hk (n + 1)
   rw [lineV_succ k (wv k) hn, ← List.append_assoc] at hpre
   refine iw_skip ?_
   refine hK7 _ _ ?_
   refine iw_seq_k fun K8 hK8 => ?_
   refine iw_block ?_
   refine iw_seq_k fun K9 hK9 => ?_
   refine iw_seg ok [(lv k, .list (c.lines.mapIdx fun n _ => [.v (wv k n)]) .none)] (facts_cons hl1 facts_nil) ?_
   dsimp only [segSt]
   refine aw_region ?_
   refine aops_n rfl (n_mv rfl (by constructor)) ?_
   try dsimp only [St.put]
   refine aops_n rfl (nstep_know 19 0 rfl rfl (n_indexAddr rfl rfl rfl rfl hn' rfl)) ?_
   try dsimp only [St.put]
   refine aops_s rfl (s_load rfl rfl) ?_
   refine aops_n rfl (n_as rfl (by constructor)) ?_
   refine aops_n rfl (n_as rfl (by constructor)) ?_
   refine aops_nil ?_
   refine ⟨rfl, ?_⟩
   dsimp only [St.put, exSt, List.map, exC]
   refine hK9 _ _ ?_
   refine iw_seq_k fun K10 hK10 => ?_
   refine iw_region ?_
   refine iops_n rfl (n_mv rfl (by constructor)) ?_
   refine iops_n rfl (n_mv rfl (by constructor)) ?_
   refine iops_n rfl (n_mv rfl (by constructor)) ?_
   refine iops_n rfl (n_buildA rfl rfl) ?_
   refine iops_n rfl (n_mv rfl (by constructor)) ?_
   try dsimp only [St.put]
   refine iops_yield ok (x := ((((k : Int), (n : Int)), wv k n) : LV)) (hpre.subset (by simp)) rfl rfl rfl rfl (fun E W vs h => encL_of h) (Nat.lt_of_lt_of_le (by simp) hpre.length_le) ?_ ?_
   ·refine iops_n rfl (n_not rfl rfl) ?_
    refine iops_nil ?_
    dsimp only [St.put]
    refine hK10 _ _ ?_
    refine iw_cond rfl (fun h => by cases h) (fun _ => ?_)
    refine iw_skip ?_
    refine hK8 _ _ ?_
    refine iw_seg ok [] (fun p hp => by cases hp) ?_
    dsimp only [segSt]
    refine aw_region ?_
    refine aops_n rfl (n_add rfl rfl rfl (by omega)) ?_
    refine aops_n rfl (n_mv rfl (by constructor)) ?_
    refine aops_nil ?_
    refine ⟨rfl, ?_⟩
    dsimp only [St.put, exSt, List.map, exC]
    exact ⟨n + 1, by omega, by omega, by rw [lineV_succ k (wv k) hn, List.append_assoc], rfl, rfl, ⟨⟨rfl, rfl⟩, zF, zB, zN, zX⟩⟩
   dsimp only [St.put, exSt, List.map, exC]
   refine iops_n rfl (n_not rfl rfl) ?_
   refine iops_nil ?_
   dsimp only [St.put]
   refine hK10 _ _ ?_
   refine iw_cond rfl (fun _ => ?_) (fun h => by cases h)
   refine iw_ret ?_
   exact idone_ret (st := ⟨0, [], [], noG, 0, 0⟩) hpre
  replace hc := of_decide_eq_false hc
  obtain rfl : n = c.lines.length := by omega
  refine iw_exit ?_
  refine hK4 _ _ ?_
  refine iw_seg ok [] (fun p hp => by cases hp) ?_
  dsimp only [segSt]
  refine aw_region ?_
  refine aops_n rfl (n_add rfl rfl rfl (by omega)) ?_
  refine aops_n rfl (n_mv rfl (by constructor)) ?_
  refine aops_nil ?_
  refine ⟨rfl, ?_⟩
  dsimp only [St.put, exSt, List.map, exC]
  exact ⟨k + 1, by omega, by omega, by rw [allV_succ wv hk, List.take_length], rfl, rfl, ⟨⟨rfl, rfl⟩, zF, zB, zN, zX⟩⟩
 replace hc := of_decide_eq_false hc
 obtain rfl : k = t.length := by omega
 refine iw_exit ?_
 exact idone_normal (st := ⟨0, [], [], noG, 0, 0⟩) (by rw [List.take_length])
theorem lines_pc (t : TextD) (e : EditionD) (n m : Nat) (G : Nat → Option GObj) (nx : Nat) (hn : n < nx) (hm : m < nx) : PC Tryz.prog 41 [.elem (bookC t e n m)] G nx fun r' G' nx' => r' = .fn (.func 76) [.elem [.elem (bookC t e n m)]] ∧ G' = G ∧ nx' = nx := by
 refine pc_named_of_body (G) (nx) Tryz.func41 rfl (.fn (low_cons (.elem (low_cons (.elem (low_cons .v (low_cons (lst_low _ _) (low_cons (lst_low _ _) (low_cons (.map hn) (low_cons (.map hm) low_nil)))))) low_nil)) low_nil)) zN (fun hlt => zH) ?_
 simp only [Tryz.ntmps41, List.length_cons, List.length_nil, Nat.reduceAdd, Nat.reduceSub]
 refine aw_lt fun hlt => ?_
 dsimp only at hlt
 refine aw_seq_k fun K1 hK1 => ?_
 refine aw_region ?_
 try dsimp only [St.put]
 refine aops_e rfl (e_box rfl rfl (by simp) ?_)
 refine aops_n rfl (n_as rfl (by constructor)) ?_
 refine aops_nil ?_
 dsimp only [St.put]
 refine hK1 _ ?_
 refine aw_seq_k fun K2 hK2 => ?_
 refine aw_region ?_
 refine aops_n rfl (n_makeFunc rfl rfl) ?_
 refine aops_n rfl (n_as rfl (by constructor)) ?_
 refine aops_nil ?_
 dsimp only [St.put]
 refine hK2 _ ?_
 refine aw_ret ?_
 refine ends_1 rfl (by constructor) zN zS ?_
 rfl
end Go.Proofs.YtjjklfgpffgnfabGreatDoor
