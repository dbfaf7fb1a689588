/-
 The contract of the program's function that reads a copy.
-/
import Derived.Test.YtjjklfgpffgnfabGreatDoorHbLeaf
import Derived.Test.YtjjklfgpffgnfabGreatDoorGrpI
import Derived.Test.YtjjklfgpffgnfabGreatDoorLayD
import Derived.WalkKit
namespace Go.AB
open Go Go.RowKit
open Go.AB.Enc (cells)
open Go.PB (bh af PlaceD ar bp cj)
theorem ua1 {rs : List ar} {k m : Nat} {c : bh} {l : List ByteArray} (h : c.lines[m]? = some l) : (g8 rs k c).lines[m]? = some (n4 rs (k : Int) (m : Int) l) := by
 unfold g8
 dsimp only
 rw [List.getElem?_mapIdx, h]; rfl
theorem ua0 {t : af} {rs : List ar} {k : Nat} {c : bh} (h : t[k]? = some c) : (c7 t rs)[k]? = some (g8 rs k c) := by
 rw [qe, h]; rfl
theorem xa (rs : List ar) (k : Nat) (c : bh) : (g8 rs k c).lines.length = c.lines.length := by simp [g8]
theorem tw (t : af) (rs : List ar) : (c7 t rs).length = t.length := by simp [c7]
theorem uje {t : af} {rs : List ar} (hv : rsB t rs = true) {k n : Nat} {c : bh} {l : List ByteArray} (hc : t[k]? = some c) (hl : c.lines[n]? = some l) : i9 rs (k : Int) (n : Int) l (l.length + 1) ≠ [] := by
 rw [tz]
 have : fk (eo l l.length) (ey rs ⟨(k : Int), (n : Int), (l.length : Int)⟩) ≠ [] := ujg fun r hr => by
  obtain ⟨h1, h2⟩ := List.mem_filter.1 hr
  have hp := of_decide_eq_true h2
  obtain ⟨l', hw, hk⟩ := tv ((rsB_true.1 hv).1 r h1)
  have e1 : r.pl.ch = (k : Int) := by rw [hp]
  have e2 : r.pl.ln = (n : Int) := by rw [hp]
  have e3 : r.pl.wd = (l.length : Int) := by rw [hp]
  rw [e1, e2, p8 hc hl] at hw
  cases hw
  rcases hk with ⟨_, _, h5, _⟩ | ⟨h5, _⟩ | ⟨_, _, h5, _⟩
  ·omega
  ·exact h5
  omega
 intro h
 exact this (List.append_eq_nil_iff.1 h).2
end Go.AB
namespace Go.Proofs.YtjjklfgpffgnfabGreatDoor
set_option maxRecDepth 10000
open Go.RowKit Go.AB
open Go.AB.Enc (cells)
open Go.PB (bh af PlaceD ar bp cj)
theorem ui5 (W : World) (y : ByteArray) : Calls Tryz.prog 99 #[.string y] W fun e w' => e = .returned (.bool (decide (y = ByteArray.empty))) ∧ ∃ q, w' = W.drewN q := by
 have h0 : (y.toList == ByteArray.empty.toList) = decide (y = ByteArray.empty) := v8 y ByteArray.empty
 go_enter Tryz.func99, Tryz.ntmps99
 go_wp2
 go_ret
 have h1 : y.toList.isEmpty = decide (y = ByteArray.empty) := by
  rw [← h0, show ByteArray.empty.toList = [] by first | decide +kernel | simp]
  cases y.toList <;> rfl
 exact ⟨by rw [← h1]; rfl, 0, rfl⟩
abbrev kndL : List C := [.v (.int .i64 0), .v .nilFunc, .v .nilFunc, .v (.int .i64 0), .fn (.func 165) [], .fn (.func 166) [], .v (.int .i64 1), .fn (.func 167) [], .fn (.func 168) [], .v (.int .i64 0), .fn (.func 169) [], .fn (.func 170) []]
abbrev si : GObj := .fact (.pointer (some ⟨1, 0, none⟩)) (.elem kndL)
theorem ucx {k : Nat} (h1 : 1 ≤ k) (h3 : k ≤ 3) : ∃ (f g : Nat) (rest : List C), kndL.drop (k * 3) = C.v (.int .i64 (ly k)) :: C.fn (.func f) [] :: C.fn (.func g) [] :: rest ∧ Fun Tryz.prog f ∧ Fun Tryz.prog g ∧ (∀ own put, ce Tryz.prog f [.v (.string own), .v (.string put)] (.v (.bool (sk k own put)))) ∧ (∀ own put, ce Tryz.prog g [.v (.string own), .v (.string put)] (lst (pi k own put))) := by
 obtain rfl | rfl | rfl : k = 1 ∨ k = 2 ∨ k = 3 := by omega
 ·exact ⟨_, _, _, rfl, inferInstance, inferInstance, ul3, ul2⟩
 ·exact ⟨_, _, _, rfl, inferInstance, inferInstance, fun _ p => ul1 _ p, ul0⟩
 exact ⟨_, _, _, rfl, inferInstance, inferInstance, ulz, fun _ p => uly _ p⟩
set_option maxHeartbeats 4000000 in
theorem ufc (n : Nat) (t : af) (c : bp) (ht : bw t = true) (hl20 : c.rs.length ≤ 20) (hv : rsB t c.rs = true) : s7 n si Tryz.prog 73 [.elem [lst t], val c] (b7 (c7 t c.rs)) := fun G nx hF hnx => by
 refine j6 (G) (nx) Tryz.func73 rfl (.agg (am (bd _ _) bn)) zN (fun hlt => zH) ?_
 simp only [Tryz.ntmps73, List.length_cons, List.length_nil, Nat.reduceAdd, Nat.reduceSub]
 refine bf fun hlt => ?_
 dsimp only at hlt
 have hlt0 : ∀ n o, (ah G nx (.box 0 [.list [] .nil])) n = some o → n < nx + 1 + 1 := fun j o h => by
  simp only [ah] at h
  split at h
  ·omega
  have := hlt j o h; omega
 obtain ⟨htx1, htx2, htx3⟩ := kh ht
 obtain ⟨hv1, hv2⟩ := rsB_true.1 hv
 have hM : nx + 1 < nx + 1 + 1 := Nat.lt_succ_self _
 refine yS fun _ K1 => ?_
 refine yR ?_
 try dsimp only [St.put]
 refine yB rfl rfl rfl ?_
 try dsimp only [St.put]
 refine ae rfl (bj rfl ?_)
 refine yN ?_
 dsimp only [St.put]
 refine K1 _ ?_
 refine yS fun _ K2 => ?_
 refine yR ?_
 try dsimp only [St.put]
 refine ae rfl (unw (α := PlaceD) rfl ?_)
 refine yA rfl rfl ?_
 refine yN ?_
 dsimp only [St.put]
 refine K2 _ ?_
 refine yS fun _ K3 => ?_
 refine yS fun _ K4 => ?_
 refine yR ?_
 refine yF rfl rfl rfl rfl ?_
 refine yL rfl rfl rfl ?_
 refine aa rfl (bx rfl rfl (List.length_map _)) ?_
 refine yM rfl rfl ?_
 refine yN ?_
 dsimp only [St.put]
 refine K4 _ ?_
 refine bg ?_
 refine di 25 ?_
 simp only [cx, bi, Nat.reduceAdd, List.getD_cons_zero, List.getD_cons_succ, List.getD_nil, dc, Nat.reduceBEq, cond_true, cond_false]
 refine dv (ah (ah G nx (.box 0 [.list [] .nil])) (nx + 1) (mh Tryz.prog 49 0 0 (α := PlaceD) fun _ => none)) zX ?_
 dsimp only
 refine up9 (X := Nat) (fun k => k ≤ c.rs.length) (fun k => c.rs.length - k) (fun k => [(7, .any), (24, .v (.int .i64 (k : Int)))]) (fun k G' => (rdG Tryz.prog 49 143 (ah G nx (.box 0 [.list [] .nil])) (nx + 1) (nx + 1 + 1) c.rs k)) (fun k => gj (nx + 1 + 1) c.rs k) 0 rfl ?_ ?_ (rfl) ?_ ?_ ?_ ?_ ?_
 ·exact Nat.zero_le _
 ·exact zF
 ·exact fun j o h => ui8 hM h
 ·rintro k hI
  exact qi _ _ _
 ·rintro k hI
  exact zL
 ·rintro k hI
  exact fun j o h => ujb (fun j o h hne => (dz hne).trans h) h hM
 rintro k hI
 dsimp only at hI ⊢
 refine yS fun _ K5 => ?_
 refine yR ?_
 refine aa rfl (ck rfl rfl rfl) ?_
 refine yN ?_
 dsimp only [St.put]
 refine K5 _ ?_
 refine yS fun _ K6 => ?_
 refine ak rfl (fun hc => ?_) (fun hc => ?_)
 ·replace hc := of_decide_eq_true hc
  obtain ⟨r, hx⟩ : ∃ x, c.rs[k]? = some x := dw (by omega)
  have hk' : k ≤ c.rs.length := hI
  have hnle := qi (nx + 1 + 1) c.rs k
  refine aq ?_
  refine K6 _ ?_
  refine yS fun _ K7 => ?_
  refine bg ?_
  refine yS fun _ K8 => ?_
  refine yR ?_
  refine aa rfl (b8 rfl rfl rfl rfl (cg (by assumption)) (Enc.len _)) ?_
  refine yE rfl rfl rfl ?_
  try dsimp only [St.put]
  refine ae rfl (bj rfl ?_)
  try dsimp only [St.put]
  refine ae rfl (ax rfl rfl rfl zG rfl rfl (by rfl) ?_)
  refine yN ?_
  dsimp only [St.put]
  refine K8 _ ?_
  refine cw (i := 7) rfl zG (by first | exact List.cons_ne_nil _ _ | (simp; done) | (simp [putAt]; done)) ?_
  dsimp only
  refine dv (rdG Tryz.prog 49 143 (ah G nx (.box 0 [.list [] .nil])) (nx + 1) (nx + 1 + 1) c.rs k) (fun j o h => ujc hlt0 h) ?_
  dsimp only
  by_cases hin : r.pl ∈ dm c.rs k
  ·refine yR ?_
   refine yM rfl rfl ?_
   refine yF rfl rfl rfl rfl ?_
   try dsimp only [St.put]
   refine ba rfl (c := val r.pl) (ow (cs := cells r) rfl rfl (show 3 ≤ 5 by decide)) ?_
   refine yE rfl rfl rfl ?_
   try dsimp only [St.put]
   refine ae rfl (cq rfl rfl rfl (by decide) (by decide) zR (by decide) ?_)
   try dsimp only [St.put]
   refine ae rfl (ud6 (α := PlaceD) r.pl rfl rfl (ry hM) rfl (by omega) (uqh hin) (uqe hin rfl) (fun s => ?_))
   refine yX rfl rfl rfl rfl ?_
   try dsimp only [St.put]
   refine ae rfl (rf [r] rfl rfl ((dz (by have := wc (nx + 1 + 1) c.rs k r.pl; omega)).trans (ui7 hin)) rfl rfl rfl (by have h1 := tu (c.rs.take k) r.pl; have h2 := List.length_take_le k c.rs; simp only [List.length_cons, List.length_nil]; omega) ?_ (by have h1 := tu (c.rs.take k) r.pl; have h2 := List.length_take_le k c.rs; simp only [List.length_cons, List.length_nil]; omega))
   refine yX rfl rfl rfl rfl ?_
   try dsimp only [St.put]
   refine ae rfl (ud8 (α := PlaceD) (s := s) r.pl rfl rfl rfl ((dz (by have := wc (nx + 1 + 1) c.rs k r.pl; omega)).trans (jd _ _ _)) rfl (uqb hx hin rfl) ?_)
   refine yN ?_
   dsimp only [St.put]
   refine K7 _ ?_
   refine yR ?_
   refine aa rfl (ca rfl rfl rfl (by omega)) ?_
   refine yM rfl rfl ?_
   refine yN ?_
   dsimp only [St.put]
   first
    | exact ⟨k + 1, by omega, by omega, ⟨⟨rfl, rfl⟩, zF, zB, ubx hx hin, fun j o h => ua2 hM hx hin rfl h⟩⟩
    | exact ⟨k + 1, by omega, by omega, ⟨⟨rfl, rfl⟩, zF, zB, uby hx hin, fun j o h => ua3 hlt0 hM hx hin rfl h⟩⟩
  refine yR ?_
  refine yM rfl rfl ?_
  refine yF rfl rfl rfl rfl ?_
  try dsimp only [St.put]
  refine ba rfl (c := val r.pl) (ow (cs := cells r) rfl rfl (show 3 ≤ 5 by decide)) ?_
  refine yE rfl rfl rfl ?_
  try dsimp only [St.put]
  refine ae rfl (cq rfl rfl rfl (by decide) (by decide) zR (by decide) ?_)
  try dsimp only [St.put]
  refine ae rfl (ud6 (α := PlaceD) r.pl rfl rfl (ry hM) rfl (by omega) (uqg hin) rfl (fun s => ?_))
  refine yX rfl rfl rfl rfl ?_
  try dsimp only [St.put]
  refine ae rfl (un6 31 143 5 rfl (by decide) (rf (xs := ([] : List ar)) [r] rfl rfl (jd _ _ _) rfl rfl rfl (by simp) ?_ (by simp)))
  refine yX rfl rfl rfl rfl ?_
  try dsimp only [St.put]
  refine ae rfl (ud8 (α := PlaceD) (s := s) r.pl rfl rfl rfl ((dz (by omega)).trans ((dz (by omega)).trans (jd _ _ _))) rfl (uqc hx hin rfl) ?_)
  refine yN ?_
  dsimp only [St.put]
  refine K7 _ ?_
  refine yR ?_
  refine aa rfl (ca rfl rfl rfl (by omega)) ?_
  refine yM rfl rfl ?_
  refine yN ?_
  dsimp only [St.put]
  first
   | exact ⟨k + 1, by omega, by omega, ⟨⟨rfl, rfl⟩, zF, zB, ubx hx hin, fun j o h => ua2 hM hx hin rfl h⟩⟩
   | exact ⟨k + 1, by omega, by omega, ⟨⟨rfl, rfl⟩, zF, zB, uby hx hin, fun j o h => ua3 hlt0 hM hx hin rfl h⟩⟩
 replace hc := of_decide_eq_false hc
 obtain rfl : k = c.rs.length := by omega
 refine dl ?_
 refine K3 _ ?_
 refine yS fun _ K9 => ?_
 refine up8 (m' := atF c.rs) (ry hM) (fun x c h => uqi x c h) (fun x c h => uql x c h) ?_
 refine dv (ah (ah G nx (.box 0 [.list [] .nil])) (nx + 1) (bl Tryz.prog 49 (2 * c.rs.length) (atF c.rs))) (fun j o h => ui9 hlt0 h) ?_
 dsimp only
 obtain ⟨NN, hNN⟩ : ∃ NN, gj (nx + 1 + 1) c.rs c.rs.length = NN := ⟨_, rfl⟩
 have hNN1 : nx + 1 + 1 ≤ NN := by rw [← hNN]; exact qi _ _ _
 rw [hNN]
 refine yR ?_
 try dsimp only [St.put]
 refine ae rfl (bj rfl ?_)
 refine yN ?_
 dsimp only [St.put]
 refine K9 _ ?_
 refine zi (NN) 0 _ _ 90 2 zG rfl (by decide) ?_
 dsimp only [List.set_cons_zero, List.set_cons_succ]
 refine yS fun _ K10 => ?_
 refine yS fun _ K11 => ?_
 refine yR ?_
 refine yM rfl rfl ?_
 refine aa rfl (ie rfl rfl) ?_
 refine yF rfl rfl rfl rfl ?_
 refine yF rfl rfl rfl rfl ?_
 refine yL rfl rfl rfl ?_
 refine aa rfl (bx rfl rfl (List.length_map _)) ?_
 refine yM rfl rfl ?_
 refine yN ?_
 dsimp only [St.put]
 refine K11 _ ?_
 refine bg ?_
 refine di 45 ?_
 simp only [cx, bi, Nat.reduceAdd, List.getD_cons_zero, List.getD_cons_succ, List.getD_nil, dc, Nat.reduceBEq, cond_true, cond_false]
 refine dv ((ah (ah (ah (ah G nx (.box 0 [.list [] .nil])) (nx + 1) (bl Tryz.prog 49 (2 * c.rs.length) (atF c.rs))) NN (.box 0 [.list (((c7 t c.rs).take 0).map cells) (.tip (NN + 1))])) (NN + 1) (.tip ((c7 t c.rs).take 0).length 90 2))) zX ?_
 dsimp only
 refine el (X := Nat) (fun k => k ≤ t.length) (fun k => t.length - k) (fun k => [(9, .any), (10, .any), (11, .any), (12, .any), (13, .any), (14, .any), (15, .any), (16, .any), (18, .any), (19, .any), (44, .v (.int .i64 (k : Int)))]) (fun k G' => (ah (ah (ah (ah G nx (.box 0 [.list [] .nil])) (nx + 1) (bl Tryz.prog 49 (2 * c.rs.length) (atF c.rs))) NN (.box k [.list (((c7 t c.rs).take k).map cells) (.tip (NN + 1))])) (NN + 1) (.tip ((c7 t c.rs).take k).length 90 2))) 0 rfl ?_ ?_ ?_ ?_ ?_ ?_
 ·exact Nat.zero_le _
 ·exact zF
 ·exact zX
 ·rintro k hI
  exact (by (try dsimp only); repeat' (first | exact trivial | refine ⟨?_, ?_⟩ | exact .v | exact .any | refine .elem ?_ | exact bd _ _ | exact ed _ _ | exact da _ _ | exact eg _ (by (try dsimp only); omega) | exact .box (by (try dsimp only); omega) | exact dp | exact bn | exact oo | refine ef ?_ ?_ | exact .arr (by (try dsimp only); omega) | exact .own (by (try dsimp only); omega) | exact .map (by (try dsimp only); omega) | exact du _ | refine am ?_ ?_ | exact bd _ _))
 ·rintro k hI
  exact (by (repeat' (refine f9 ?_ (by (try dsimp only); omega) ?_)); all_goals (first | exact gw zS | (repeat' (first | exact trivial | refine ⟨?_, ?_⟩ | exact .v | exact .any | refine .elem ?_ | exact bd _ _ | exact ed _ _ | exact da _ _ | exact eg _ (by (try dsimp only); omega) | exact .box (by (try dsimp only); omega) | exact dp | exact bn | exact oo | refine ef ?_ ?_ | exact .arr (by (try dsimp only); omega) | exact .own (by (try dsimp only); omega) | exact .map (by (try dsimp only); omega) | exact du _ | refine am ?_ ?_ | exact bd _ _))))
 rintro k hI2
 dsimp only at hI2 ⊢
 refine yS fun _ K12 => ?_
 refine yR ?_
 refine aa rfl (ck rfl rfl rfl) ?_
 refine yN ?_
 dsimp only [St.put]
 refine K12 _ ?_
 refine yS fun _ K13 => ?_
 refine ak rfl (fun hc => ?_) (fun hc => ?_)
 ·replace hc := of_decide_eq_true hc
  obtain ⟨ch, hch⟩ : ∃ x, t[k]? = some x := dw (by omega)
  have hcl := htx3 ch (e8 hch)
  have hrl := xa c.rs k ch
  refine aq ?_
  refine K13 _ ?_
  refine yS fun _ K14 => ?_
  refine bg ?_
  refine yS fun _ K15 => ?_
  refine yR ?_
  refine yM rfl rfl ?_
  refine aa rfl (b8 rfl rfl rfl rfl (cg (by assumption)) (Enc.len _)) ?_
  refine yE rfl rfl rfl ?_
  try dsimp only [St.put]
  refine ae rfl (bj rfl ?_)
  refine yA rfl rfl ?_
  try dsimp only [St.put]
  refine ae rfl (ax rfl rfl rfl zG rfl rfl (by rfl) ?_)
  refine yN ?_
  dsimp only [St.put]
  refine K15 _ ?_
  refine cw (i := 10) rfl zG (by first | exact List.cons_ne_nil _ _ | (simp; done) | (simp [putAt]; done)) ?_
  dsimp only
  refine yS fun _ K16 => ?_
  refine yR ?_
  refine yF rfl rfl rfl rfl ?_
  refine yL rfl rfl rfl ?_
  refine aa rfl (dg rfl rfl) ?_
  try dsimp only [St.put]
  refine ae rfl (bj rfl ?_)
  try dsimp only [St.put]
  refine ae rfl (ax rfl rfl rfl zG rfl rfl (by rfl) ?_)
  refine yN ?_
  dsimp only [St.put]
  refine K16 _ ?_
  refine zi (NN + 1 + 1 + 1) 1 _ _ 87 1 zG rfl (by decide) ?_
  dsimp only [List.set_cons_zero, List.set_cons_succ]
  refine yS fun _ K17 => ?_
  refine yS fun _ K18 => ?_
  refine yR ?_
  refine yF rfl rfl rfl rfl ?_
  refine yL rfl rfl rfl ?_
  refine aa rfl (bx rfl rfl (List.length_map _)) ?_
  refine yM rfl rfl ?_
  refine yN ?_
  dsimp only [St.put]
  refine K18 _ ?_
  refine bg ?_
  refine di 56 ?_
  simp only [cx, bi, Nat.reduceAdd, List.getD_cons_zero, List.getD_cons_succ, List.getD_nil, dc, Nat.reduceBEq, cond_true, cond_false]
  refine dv ((ah (ah (ah (ah (ah (ah G nx (.box 0 [.list [] .nil])) (nx + 1) (bl Tryz.prog 49 (2 * c.rs.length) (atF c.rs))) NN (.box k [.list (((c7 t c.rs).take k).map cells) (.tip (NN + 1))])) (NN + 1) (.tip ((c7 t c.rs).take k).length 90 2)) (NN + 1 + 1 + 1) (.box (0 + 1) [.v (.int .i64 ch.id), .list (((g8 c.rs k ch).lines.take 0).map cells) (.tip (NN + 1 + 1 + 1 + 1))])) (NN + 1 + 1 + 1 + 1) (.tip ((g8 c.rs k ch).lines.take 0).length 87 1))) zX ?_
  dsimp only
  refine el (X := Nat) (fun m => m ≤ ch.lines.length) (fun m => ch.lines.length - m) (fun m => [(12, .any), (13, .any), (14, .any), (15, .any), (16, .any), (18, .any), (19, .any), (55, .v (.int .i64 (m : Int)))]) (fun m G' => (ah (ah (ah (ah (ah (ah G nx (.box 0 [.list [] .nil])) (nx + 1) (bl Tryz.prog 49 (2 * c.rs.length) (atF c.rs))) NN (.box k [.list (((c7 t c.rs).take k).map cells) (.tip (NN + 1))])) (NN + 1) (.tip ((c7 t c.rs).take k).length 90 2)) (NN + 1 + 1 + 1) (.box (m + 1) [.v (.int .i64 ch.id), .list (((g8 c.rs k ch).lines.take m).map cells) (.tip (NN + 1 + 1 + 1 + 1))])) (NN + 1 + 1 + 1 + 1) (.tip ((g8 c.rs k ch).lines.take m).length 87 1))) 0 rfl ?_ ?_ ?_ ?_ ?_ ?_
  ·exact Nat.zero_le _
  ·exact zF
  ·exact zX
  ·rintro m hI
   exact (by (try dsimp only); repeat' (first | exact trivial | refine ⟨?_, ?_⟩ | exact .v | exact .any | refine .elem ?_ | exact bd _ _ | exact ed _ _ | exact da _ _ | exact eg _ (by (try dsimp only); omega) | exact .box (by (try dsimp only); omega) | exact dp | exact bn | exact oo | refine ef ?_ ?_ | exact .arr (by (try dsimp only); omega) | exact .own (by (try dsimp only); omega) | exact .map (by (try dsimp only); omega) | exact du _ | refine am ?_ ?_ | exact bd _ _))
  ·rintro m hI
   exact (by (repeat' (refine f9 ?_ (by (try dsimp only); omega) ?_)); all_goals (first | exact gw zS | (repeat' (first | exact trivial | refine ⟨?_, ?_⟩ | exact .v | exact .any | refine .elem ?_ | exact bd _ _ | exact ed _ _ | exact da _ _ | exact eg _ (by (try dsimp only); omega) | exact .box (by (try dsimp only); omega) | exact dp | exact bn | exact oo | refine ef ?_ ?_ | exact .arr (by (try dsimp only); omega) | exact .own (by (try dsimp only); omega) | exact .map (by (try dsimp only); omega) | exact du _ | refine am ?_ ?_ | exact bd _ _))))
  rintro m hI3
  dsimp only at hI3 ⊢
  refine yS fun _ K19 => ?_
  refine yR ?_
  refine aa rfl (ck rfl rfl rfl) ?_
  refine yN ?_
  dsimp only [St.put]
  refine K19 _ ?_
  refine yS fun _ K20 => ?_
  refine ak rfl (fun hc => ?_) (fun hc => ?_)
  ·replace hc := of_decide_eq_true hc
   obtain ⟨l, hl⟩ : ∃ x, ch.lines[m]? = some x := dw (by omega)
   have hll := hcl.2.2 l (e8 hl)
   refine aq ?_
   refine K20 _ ?_
   refine yS fun _ K21 => ?_
   refine bg ?_
   refine yS fun _ K22 => ?_
   refine yR ?_
   refine yM rfl rfl ?_
   refine aa rfl (b8 rfl rfl rfl rfl (cg (by assumption)) (Enc.len _)) ?_
   refine yL rfl rfl rfl ?_
   refine yA rfl rfl ?_
   refine yA rfl rfl ?_
   refine yN ?_
   dsimp only [St.put]
   refine K22 _ ?_
   refine yS fun _ K23 => ?_
   refine yR ?_
   refine yA rfl rfl ?_
   refine yN ?_
   dsimp only [St.put]
   refine K23 _ ?_
   refine zh 14 9 1 rfl (by decide) ?_
   refine yS fun _ K24 => ?_
   refine yS fun _ K25 => ?_
   refine yR ?_
   refine yM rfl rfl ?_
   refine aa rfl (bx rfl rfl (List.length_map _)) ?_
   refine aa rfl (ca rfl rfl rfl (by omega)) ?_
   refine yM rfl rfl ?_
   refine yN ?_
   dsimp only [St.put]
   refine K25 _ ?_
   refine bg ?_
   refine di 64 ?_
   simp only [cx, bi, Nat.reduceAdd, List.getD_cons_zero, List.getD_cons_succ, List.getD_nil, dc, Nat.reduceBEq, cond_true, cond_false]
   refine dv ((ah (ah (ah (ah (ah (ah (ah G nx (.box 0 [.list [] .nil])) (nx + 1) (bl Tryz.prog 49 (2 * c.rs.length) (atF c.rs))) NN (.box k [.list (((c7 t c.rs).take k).map cells) (.tip (NN + 1))])) (NN + 1) (.tip ((c7 t c.rs).take k).length 90 2)) (NN + 1 + 1 + 1) (.box (m + 1) [.v (.int .i64 ch.id), .list (((g8 c.rs k ch).lines.take m).map cells) (.tip (NN + 1 + 1 + 1 + 1))])) (NN + 1 + 1 + 1 + 1) (.tip ((g8 c.rs k ch).lines.take m).length 87 1)) (NN + 1 + 1 + 1 + 1 + 1) (.arr 0 0 9 1 ((i9 c.rs (k : Int) (m : Int) l 0)).length (bt ((i9 c.rs (k : Int) (m : Int) l 0)))))) zX ?_
   dsimp only
   refine el (X := Nat × Nat) (fun x => x.1 ≤ l.length + 1) (fun x => l.length + 1 - x.1) (fun x => [(14, .own (NN + 1 + 1 + 1 + 1 + 1) x.2 (i9 c.rs (k : Int) (m : Int) l x.1).length), (15, .any), (16, .any), (18, .any), (19, .any), (63, .v (.int .i64 (x.1 : Int)))]) (fun x G' => (ah (ah (ah (ah (ah (ah (ah G nx (.box 0 [.list [] .nil])) (nx + 1) (bl Tryz.prog 49 (2 * c.rs.length) (atF c.rs))) NN (.box k [.list (((c7 t c.rs).take k).map cells) (.tip (NN + 1))])) (NN + 1) (.tip ((c7 t c.rs).take k).length 90 2)) (NN + 1 + 1 + 1) (.box (m + 1) [.v (.int .i64 ch.id), .list (((g8 c.rs k ch).lines.take m).map cells) (.tip (NN + 1 + 1 + 1 + 1))])) (NN + 1 + 1 + 1 + 1) (.tip ((g8 c.rs k ch).lines.take m).length 87 1)) (NN + 1 + 1 + 1 + 1 + 1) (.arr x.2 0 9 1 ((i9 c.rs (k : Int) (m : Int) l x.1)).length (bt ((i9 c.rs (k : Int) (m : Int) l x.1)))))) (0, 0) rfl ?_ ?_ ?_ ?_ ?_ ?_
   ·exact Nat.zero_le _
   ·exact zF
   ·exact zX
   ·rintro ⟨w, v⟩ hI
    exact (by (try dsimp only); repeat' (first | exact trivial | refine ⟨?_, ?_⟩ | exact .v | exact .any | refine .elem ?_ | exact bd _ _ | exact ed _ _ | exact da _ _ | exact eg _ (by (try dsimp only); omega) | exact .box (by (try dsimp only); omega) | exact dp | exact bn | exact oo | refine ef ?_ ?_ | exact .arr (by (try dsimp only); omega) | exact .own (by (try dsimp only); omega) | exact .map (by (try dsimp only); omega) | exact du _ | refine am ?_ ?_ | exact bd _ _))
   ·rintro ⟨w, v⟩ hI
    exact (by (repeat' (refine f9 ?_ (by (try dsimp only); omega) ?_)); all_goals (first | exact gw zS | (repeat' (first | exact trivial | refine ⟨?_, ?_⟩ | exact .v | exact .any | refine .elem ?_ | exact bd _ _ | exact ed _ _ | exact da _ _ | exact eg _ (by (try dsimp only); omega) | exact .box (by (try dsimp only); omega) | exact dp | exact bn | exact oo | refine ef ?_ ?_ | exact .arr (by (try dsimp only); omega) | exact .own (by (try dsimp only); omega) | exact .map (by (try dsimp only); omega) | exact du _ | refine am ?_ ?_ | exact bd _ _))))
   rintro ⟨w, v⟩ hI4
   dsimp only at hI4 ⊢
   refine yS fun _ K26 => ?_
   refine yR ?_
   refine aa rfl (ck rfl rfl rfl) ?_
   refine yN ?_
   dsimp only [St.put]
   refine K26 _ ?_
   refine yS fun _ K27 => ?_
   refine ak rfl (fun hc => ?_) (fun hc => ?_)
   ·replace hc := of_decide_eq_true hc
    obtain ⟨tok, hat⟩ := uqk c.rs ⟨(k : Int), (m : Int), (w : Int)⟩
    obtain ⟨RA, hRA⟩ : ∃ RA, ey c.rs ⟨(k : Int), (m : Int), (w : Int)⟩ = RA := ⟨_, rfl⟩
    rw [hRA] at hat
    have hRAl : RA.length ≤ 20 := by rw [← hRA]; exact Nat.le_trans (tu _ _) hl20
    have hrawl : (i9 c.rs (k : Int) (m : Int) l w).length ≤ 11 * 21 := Nat.le_trans (t6 _ _ _ _ _) (Nat.mul_le_mul (by omega) (by omega))
    refine aq ?_
    refine K27 _ ?_
    refine yS fun _ K28 => ?_
    refine bg ?_
    refine yS fun _ K29 => ?_
    refine yR ?_
    refine yM rfl rfl ?_
    refine yA rfl rfl ?_
    refine yN ?_
    dsimp only [St.put]
    refine K29 _ ?_
    refine yS fun _ K30 => ?_
    refine yR ?_
    refine yM rfl rfl ?_
    refine yM rfl rfl ?_
    try dsimp only [St.put]
    refine ae rfl (a7 rfl rfl rfl (ucp l w (by omega)) ?_)
    try dsimp only [St.put]
    refine ae rfl (un3 [eo l w] rfl rfl rfl rfl (by decide) (by decide) (by decide) ?_)
    refine yA rfl rfl ?_
    refine yN ?_
    dsimp only [St.put]
    refine K30 _ ?_
    refine yS fun _ K31 => ?_
    refine yS fun _ K32 => ?_
    refine yR ?_
    refine yM rfl rfl ?_
    refine yM rfl rfl ?_
    refine yM rfl rfl ?_
    refine yM rfl rfl ?_
    refine aa rfl (dg rfl rfl) ?_
    try dsimp only [St.put]
    refine ba rfl (uh5 (α := PlaceD) ⟨(k : Int), (m : Int), (w : Int)⟩ rfl rfl zG trivial rfl hat) ?_
    refine aa rfl (bx rfl rfl (List.length_map _)) ?_
    refine yM rfl rfl ?_
    refine yN ?_
    dsimp only [St.put]
    refine K32 _ ?_
    refine bg ?_
    refine di 78 ?_
    simp only [cx, bi, Nat.reduceAdd, List.getD_cons_zero, List.getD_cons_succ, List.getD_nil, dc, Nat.reduceBEq, cond_true, cond_false]
    refine dv (ah (ah (ah (ah (ah (ah (ah (ah G nx (.box 0 [.list [] .nil])) (nx + 1) (bl Tryz.prog 49 (2 * c.rs.length) (atF c.rs))) NN (.box k [.list (((c7 t c.rs).take k).map cells) (.tip (NN + 1))])) (NN + 1) (.tip ((c7 t c.rs).take k).length 90 2)) (NN + 1 + 1 + 1) (.box (m + 1) [.v (.int .i64 ch.id), .list (((g8 c.rs k ch).lines.take m).map cells) (.tip (NN + 1 + 1 + 1 + 1))])) (NN + 1 + 1 + 1 + 1) (.tip ((g8 c.rs k ch).lines.take m).length 87 1)) (NN + 1 + 1 + 1 + 1 + 1) (.arr v 0 9 1 ((i9 c.rs (k : Int) (m : Int) l w)).length (bt ((i9 c.rs (k : Int) (m : Int) l w))))) (NN + 1 + 1 + 1 + 1 + 1 + 1) (.arr 0 0 9 1 (fk (eo l w) (RA.take 0)).length (bt (fk (eo l w) (RA.take 0))))) zX ?_
    dsimp only
    refine el (X := Nat × Nat) (fun y => y.1 ≤ RA.length) (fun y => RA.length - y.1) (fun y => [(16, .own (NN + 1 + 1 + 1 + 1 + 1 + 1) y.2 (fk (eo l w) (RA.take y.1)).length), (18, .any), (19, .any), (77, .v (.int .i64 (y.1 : Int)))]) (fun y G' => ah (ah (ah (ah (ah (ah (ah (ah G nx (.box 0 [.list [] .nil])) (nx + 1) (bl Tryz.prog 49 (2 * c.rs.length) (atF c.rs))) NN (.box k [.list (((c7 t c.rs).take k).map cells) (.tip (NN + 1))])) (NN + 1) (.tip ((c7 t c.rs).take k).length 90 2)) (NN + 1 + 1 + 1) (.box (m + 1) [.v (.int .i64 ch.id), .list (((g8 c.rs k ch).lines.take m).map cells) (.tip (NN + 1 + 1 + 1 + 1))])) (NN + 1 + 1 + 1 + 1) (.tip ((g8 c.rs k ch).lines.take m).length 87 1)) (NN + 1 + 1 + 1 + 1 + 1) (.arr v 0 9 1 ((i9 c.rs (k : Int) (m : Int) l w)).length (bt ((i9 c.rs (k : Int) (m : Int) l w))))) (NN + 1 + 1 + 1 + 1 + 1 + 1) (.arr y.2 0 9 1 (fk (eo l w) (RA.take y.1)).length (bt (fk (eo l w) (RA.take y.1))))) (0, 0) rfl ?_ ?_ ?_ ?_ ?_ ?_
    ·exact Nat.zero_le _
    ·exact zF
    ·exact zX
    ·rintro ⟨j, v2⟩ hI
     exact (by (try dsimp only); repeat' (first | exact trivial | refine ⟨?_, ?_⟩ | exact .v | exact .any | refine .elem ?_ | exact bd _ _ | exact ed _ _ | exact da _ _ | exact eg _ (by (try dsimp only); omega) | exact .box (by (try dsimp only); omega) | exact dp | exact bn | exact oo | refine ef ?_ ?_ | exact .arr (by (try dsimp only); omega) | exact .own (by (try dsimp only); omega) | exact .map (by (try dsimp only); omega) | exact du _ | refine am ?_ ?_ | exact bd _ _))
    ·rintro ⟨j, v2⟩ hI
     exact (by (repeat' (refine f9 ?_ (by (try dsimp only); omega) ?_)); all_goals (first | exact gw zS | (repeat' (first | exact trivial | refine ⟨?_, ?_⟩ | exact .v | exact .any | refine .elem ?_ | exact bd _ _ | exact ed _ _ | exact da _ _ | exact eg _ (by (try dsimp only); omega) | exact .box (by (try dsimp only); omega) | exact dp | exact bn | exact oo | refine ef ?_ ?_ | exact .arr (by (try dsimp only); omega) | exact .own (by (try dsimp only); omega) | exact .map (by (try dsimp only); omega) | exact du _ | refine am ?_ ?_ | exact bd _ _))))
    rintro ⟨j, v2⟩ hI5
    dsimp only at hI5 ⊢
    refine yS fun _ K33 => ?_
    refine yR ?_
    refine aa rfl (ck rfl rfl rfl) ?_
    refine yN ?_
    dsimp only [St.put]
    refine K33 _ ?_
    refine yS fun _ K34 => ?_
    refine ak rfl (fun hc => ?_) (fun hc => ?_)
    ·replace hc := of_decide_eq_true hc
     obtain ⟨r, hr⟩ : ∃ x, RA[j]? = some x := dw (by omega)
     have hputs : ∀ x ∈ RA.take j, x.kind = 2 := by rw [← hRA]; exact uax hv2 _ (by rw [hRA]; exact hr)
     have hrc : r ∈ c.rs := by have := e8 hr; rw [← hRA] at this; exact (List.mem_filter.1 this).1
     obtain ⟨kk, hkk, hkk1, hkk3⟩ : ∃ kk : Nat, r.kind = (kk : Int) ∧ 1 ≤ kk ∧ kk ≤ 3 := by
      obtain ⟨_, _, hk⟩ := tv (hv1 r hrc)
      rcases hk with h | h | h
      ·exact ⟨1, h.1, by decide, by decide⟩
      ·exact ⟨2, h.1, by decide, by decide⟩
      exact ⟨3, h.1, by decide, by decide⟩
     obtain ⟨_, gm, rest, hknd, _, hFun, _, hpm⟩ := ucx hkk1 hkk3
     have hstep : (RA.take j).map (·.word) ++ pi kk (eo l w) r.word = fk (eo l w) (RA.take (j + 1)) := by rw [← ti hr, ujf hputs, uk6 hkk]
     rw [xd hputs]
     obtain ⟨PW, hPW⟩ : ∃ PW, (RA.take j).map (·.word) = PW := ⟨_, rfl⟩
     rw [hPW] at hstep ⊢
     have hPl : PW.length ≤ 20 := by rw [← hPW, List.length_map]; have := List.length_take_le j RA; omega
     have hPl2 : (PW ++ [eo l w]).length = PW.length + 1 := by simp
     have hlast : (PW ++ [eo l w])[PW.length]? = some (eo l w) := by simp
     have hfl : (bt (PW ++ [eo l w]))[PW.length * 1]? = some (.v (.string (eo l w))) := yj (j := 0) hlast rfl
     have hml : (pi kk (eo l w) r.word).length ≤ 2 := by
      unfold pi
      repeat' (first | (rw [Bool.cond_decide]; split))
      all_goals simp
     have hsub : (((PW ++ [eo l w]).length : Nat) : Int) - 1 = (PW.length : Int) := by rw [hPl2]; omega
     refine aq ?_
     refine K34 _ ?_
     refine yS fun _ K35 => ?_
     refine bg ?_
     refine yS fun _ K36 => ?_
     refine yR ?_
     refine aa rfl (b8 rfl rfl rfl rfl (cg (by assumption)) (Enc.len _)) ?_
     refine yE rfl rfl rfl ?_
     try dsimp only [St.put]
     refine ae rfl (bj rfl ?_)
     try dsimp only [St.put]
     refine ae rfl (ax rfl rfl rfl zG rfl rfl (by rfl) ?_)
     refine yN ?_
     dsimp only [St.put]
     refine K36 _ ?_
     refine cw (i := 18) rfl zG (by first | exact List.cons_ne_nil _ _ | (simp; done) | (simp [putAt]; done)) ?_
     dsimp only
     refine yS fun _ K37 => ?_
     refine yR ?_
     refine yM rfl rfl ?_
     refine aa rfl (qk rfl rfl) ?_
     refine aa rfl (g9 rfl rfl rfl (by omega)) ?_
     refine yA rfl rfl ?_
     refine yN ?_
     dsimp only [St.put]
     refine K37 _ ?_
     refine gh [(0, none), (1, none), (2, none), (3, none), (4, none), (5, none), (6, none), (7, none), (8, none), (9, none), (10, none), (11, none), (12, none), (13, none), (14, none), (15, none), (16, none)] (fun i => [14, 15].contains i) (fun i => [14, 15].contains i) (fun i => [0, 1, 2, 3, 5, 6, 8, 9, 10, 12, 16].contains i) [NN + 1 + 1 + 1 + 1 + 1 + 1] (by kernel_rfl) (by kernel_rfl) ?_
     refine xM rfl rfl rfl rfl rfl ?_
     refine xM rfl rfl rfl rfl rfl ?_
     refine ai rfl rfl rfl rfl ((ukf (k := PW.length) rfl rfl rfl hsub (by omega))) ?_
     refine ai rfl rfl rfl rfl (cd rfl rfl rfl) ?_
     try dsimp only [St.put]
     refine az rfl rfl rfl rfl (bq rfl rfl) ?_
     try dsimp only [St.put]
     refine ai rfl rfl rfl rfl ((ub3 (j := n) (k := kk) rfl rfl zG rfl hkk (by omega) hknd)) ?_
     refine ai rfl rfl rfl rfl (cd rfl rfl rfl) ?_
     try dsimp only [St.put]
     refine az rfl rfl rfl rfl (bq rfl rfl) ?_
     refine xM rfl rfl rfl rfl rfl ?_
     refine xM rfl rfl rfl rfl rfl ?_
     try dsimp only [St.put]
     refine ai rfl rfl rfl rfl ((ql (k := PW.length) rfl rfl zG rfl hsub (by omega))) ?_
     try dsimp only [St.put]
     refine az rfl rfl rfl rfl (uao rfl rfl zG (by simp) hfl) ?_
     refine ai rfl rfl rfl rfl (cd rfl rfl rfl) ?_
     try dsimp only [St.put]
     refine az rfl rfl rfl rfl (bq rfl rfl) ?_
     refine il ?_
     try dsimp only [St.put]
     refine gl rfl rfl rfl rfl (a7 rfl rfl rfl (hpm (eo l w) r.word) ?_)
     try dsimp only [St.put]
     refine gl rfl rfl rfl rfl ((un0 86 PW (pi kk (eo l w) r.word) rfl rfl rfl zG (by rw [vf]; exact List.take_left' (by rw [sr])) rfl rfl rfl (by omega) (by omega) (fun v4 => ?_)))
     refine jl rfl rfl rfl rfl (eh rfl (by constructor)) ?_
     refine ij ?_
     dsimp only [St.put]
     refine K35 _ ?_
     refine yR ?_
     refine aa rfl (ca rfl rfl rfl (by omega)) ?_
     refine yM rfl rfl ?_
     refine yN ?_
     dsimp only [St.put]
     rw [hstep]
     exact ⟨(j + 1, v4), by (dsimp only; omega), by (dsimp only; omega), ⟨⟨rfl, rfl⟩, zF, zB, zN, zX⟩⟩
    replace hc := of_decide_eq_false hc
    rw [fj (show RA.length ≤ j by omega), ← hRA]
    have hpl := xe (eo l w) (ey c.rs ⟨(k : Int), (m : Int), (w : Int)⟩)
    have hRAl2 : (ey c.rs ⟨(k : Int), (m : Int), (w : Int)⟩).length ≤ 20 := by rw [hRA]; exact hRAl
    refine dl ?_
    refine K31 _ ?_
    refine yR ?_
    refine yM rfl rfl ?_
    refine yM rfl rfl ?_
    try dsimp only [St.put]
    refine ae rfl (ud9 102 (fk (eo l w) (ey c.rs ⟨(k : Int), (m : Int), (w : Int)⟩)) rfl zG rfl rfl rfl (ueb (xs := i9 c.rs (k : Int) (m : Int) l w) (fk (eo l w) (ey c.rs ⟨(k : Int), (m : Int), (w : Int)⟩)) rfl rfl ((kn (by omega)).trans zG) rfl rfl rfl rfl (by omega) (by omega) (fun v3 => ?_)))
    refine yA rfl rfl ?_
    refine yN ?_
    dsimp only [St.put]
    refine K28 _ ?_
    refine yR ?_
    refine aa rfl (ca rfl rfl rfl (by omega)) ?_
    refine yM rfl rfl ?_
    refine yN ?_
    dsimp only [St.put]
    rw [← tz]
    exact ⟨(w + 1, v3), by (dsimp only; omega), by (dsimp only; omega), ⟨⟨rfl, rfl⟩, zF, zB, zN, zX⟩⟩
   replace hc := of_decide_eq_false hc
   obtain rfl : w = l.length + 1 := by omega
   have hrawl : (i9 c.rs (k : Int) (m : Int) l (l.length + 1)).length ≤ 11 * 21 := Nat.le_trans (t6 _ _ _ _ _) (Nat.mul_le_mul (by omega) (by omega))
   have hrne := uje hv hch hl
   have hrf := xc hv (k : Int) (m : Int) l (l.length + 1)
   refine dl ?_
   refine K24 _ ?_
   refine gh [(0, none), (1, none), (2, none), (3, none), (4, none), (5, none), (6, none), (7, none)] (fun i => [5, 7].contains i) (fun i => [3, 4, 5, 7].contains i) (fun i => [0, 2, 6].contains i) [NN + 1 + 1 + 1] (by kernel_rfl) (by kernel_rfl) ?_
   refine ai rfl rfl rfl rfl (ip rfl rfl) ?_
   try dsimp only [St.put]
   refine az rfl rfl rfl rfl (i7 rfl rfl zG (by simp) (by first | rfl | assumption)) ?_
   refine xM rfl rfl rfl rfl rfl ?_
   refine il ?_
   try dsimp only [St.put]
   refine jp rfl rfl rfl (unz uob (xs := i9 c.rs (k : Int) (m : Int) l (l.length + 1)) Value.string (fun _ => rfl) (fun _ => rfl) (fun s => decide (s = ByteArray.empty)) ByteArray.empty (fun w => Zero.run (P := Tryz.prog) (t := 9) (w := w)) rfl rfl rfl rfl zG rfl rfl hrne (by omega) rfl ui5 hrf ⟨zD, ?_⟩)
   try dsimp only [St.put]
   refine jp rfl rfl rfl (ud9 108 (n4 c.rs (k : Int) (m : Int) l) rfl zG rfl rfl rfl (cq rfl rfl rfl (by decide) (by decide) zR (by decide) ⟨zD, ?_⟩))
   try dsimp only [St.put]
   refine gl rfl rfl rfl rfl (rf ([n4 c.rs (k : Int) (m : Int) l]) rfl rfl zG (by first | rfl | simp) rfl rfl zA ?_ zA)
   refine jl rfl rfl rfl rfl (ip rfl rfl) ?_
   try dsimp only [St.put]
   refine gl rfl rfl rfl rfl (rd rfl rfl rfl zG (by constructor) rfl (by first | (simp; done) | (simp; omega) | exact Nat.lt_of_lt_of_eq (by decide) (Enc.len _).symm) ?_)
   refine ij ?_
   dsimp only [St.put]
   refine K21 _ ?_
   refine yR ?_
   refine aa rfl (ca rfl rfl rfl (by omega)) ?_
   refine yM rfl rfl ?_
   refine yN ?_
   dsimp only [St.put]
   simp only [ti (ua1 (rs := c.rs) (k := k) hl)]
   exact ⟨m + 1, by omega, by omega, ⟨⟨rfl, rfl⟩, zF, zB, zN, zX⟩⟩
  replace hc := of_decide_eq_false hc
  rw [fj (show (g8 c.rs k ch).lines.length ≤ m by omega)]
  refine up6 (NN + 1 + 1 + 1) _ [.v (.int .i64 ch.id), lst (g8 c.rs k ch).lines] zG zW ?_
  refine dl ?_
  refine K17 _ ?_
  refine yR ?_
  refine aa rfl (ip rfl rfl) ?_
  try dsimp only [St.put]
  refine ba rfl (i7 rfl rfl zG trivial (by first | rfl | assumption)) ?_
  try dsimp only [St.put]
  refine ba rfl (i6 rfl rfl zG trivial (by rfl)) ?_
  try dsimp only [St.put]
  refine ae rfl (cq rfl rfl rfl (by decide) (by decide) zR (by decide) ?_)
  try dsimp only [St.put]
  refine ae rfl (rf ([g8 c.rs k ch]) rfl rfl zG (by first | rfl | simp) rfl rfl zA ?_ zA)
  refine aa rfl (ip rfl rfl) ?_
  try dsimp only [St.put]
  refine ae rfl (ax rfl rfl rfl zG rfl rfl (by rfl) ?_)
  refine yN ?_
  dsimp only [St.put]
  refine K14 _ ?_
  refine yR ?_
  refine aa rfl (ca rfl rfl rfl (by omega)) ?_
  refine yM rfl rfl ?_
  refine yN ?_
  dsimp only [St.put]
  simp only [ti (ua0 (rs := c.rs) hch)]
  exact ⟨k + 1, by omega, by omega, ⟨⟨rfl, rfl⟩, zF, zB, zN, zX⟩⟩
 replace hc := of_decide_eq_false hc
 refine dl ?_
 refine K10 _ ?_
 refine yS fun _ K38 => ?_
 refine yR ?_
 try dsimp only [St.put]
 refine ba rfl (i6 rfl rfl zG trivial (by rfl)) ?_
 try dsimp only [St.put]
 refine ae rfl (ax rfl rfl rfl zG rfl rfl (by rfl) ?_)
 refine yN ?_
 dsimp only [St.put]
 refine K38 _ ?_
 refine aj ?_
 refine jw rfl (dr rfl zG (by rfl) (by first | exact List.cons_ne_nil _ _ | (simp; done) | (simp [putAt]; done)) rfl) zN zS ?_
 rw [fj (show (c7 t c.rs).length ≤ k by rw [tw]; omega)]
 exact zW
end Go.Proofs.YtjjklfgpffgnfabGreatDoor
