/-
  What the walks through the program rest on: values, states, steps, calls (RdOpen, AbFW, RfLefts, QnRef, QrRef, ReAsk, RjRests, QoRef, RkTotal, RgSets, QpRef, QqRef, RlChief, SaAlive, PkGuess, SbFacts, SdSums, QsTwin).
-/
import Derived.Test.YtgffhbbcpgdjjaaDoorPartD
import Derived.Test.YtgffhbbcpgdjjaaDoorPartC
import Derived.Test.YtgffhbbcpgdjjaaDoorPartB
namespace Go.AB
open Go Go.RowKit
open Go.AB.Enc (cells)
open Go.PB (ay ak PlaceD bi bk bj bz av aq cy cx dp dm)
/-- the readers that have been looked at -/
def gz (p : aq) : Nat → List bz
 | 0 => []
 | 1 => p.firsts
 | _ => p.firsts ++ p.seconds
theorem ug2 {p : aq} : ∀ {k : Nat}, k < 2 → gz p (k + 1) = gz p k ++ eh p (decide (k = 1))
 | 0, _ => rfl
 | 1, _ => rfl
 | k + 2, h => by omega
def okR (l : List bz) : Prop := l.all gu = true ∧ (l.map (·.id)).Nodup
theorem ui8 {l : List bz} {r : bz} (h : okR l) (h1 : gu r = true) (h2 : r.id ∉ l.map (·.id)) : okR (l ++ [r]) := by
 refine ⟨by rw [List.all_append, h.1]; simp [h1], ?_⟩
 rw [List.map_append, List.nodup_append]
 refine ⟨h.2, by simp, fun a ha b hb e => ?_⟩
 simp only [List.map_cons, List.map_nil, List.mem_singleton] at hb
 subst hb; subst e
 exact h2 ha
theorem ug1 {p : aq} : ∀ {k i : Nat}, k < 2 → (gz p k ++ (eh p (decide (k = 1))).take i) <+: (p.firsts ++ p.seconds)
 | 0, i, _ => by
  show [] ++ p.firsts.take i <+: p.firsts ++ p.seconds
  rw [List.nil_append]
  exact (List.take_prefix i p.firsts).trans (List.prefix_append _ _)
 | 1, i, _ => (List.prefix_append_right_inj p.firsts).2 (List.take_prefix i p.seconds)
 | k + 2, _, h => by omega
theorem uhn {p : aq} {k i : Nat} {r : bz} (hk : k < 2) (hr : (eh p (decide (k = 1)))[i]? = some r) (hb : gu r = false ∨ r.id ∈ (gz p k ++ (eh p (decide (k = 1))).take i).map (·.id)) : gj p = false := by
 have hpre := ug1 (p := p) (k := k) (i := i + 1) hk
 rw [List.take_add_one, hr, Option.toList_some, ← List.append_assoc] at hpre
 unfold gj jx
 rcases hb with h | h
 ·have : (p.firsts ++ p.seconds).all gu = false := List.all_eq_false.2 ⟨r, hpre.subset (by simp), by rw [h]; simp⟩
  rw [this]; simp
 ·have : ¬ ((p.firsts ++ p.seconds).map (·.id)).Nodup := fun hn => by
   have h2 := hn.sublist (List.Sublist.map (·.id) hpre.sublist)
   rw [List.map_append, List.nodup_append] at h2
   exact h2.2.2 _ h r.id (by simp) rfl
  rw [decide_eq_false this]; simp
theorem ujw {p : aq} {b : Bool} (h : ¬ (eh p b).length ≤ 3) : gj p = false := by
 unfold gj jx
 cases b
 ·rw [decide_eq_false (show ¬ p.firsts.length ≤ 3 from h)]; simp
 ·rw [decide_eq_false (show ¬ p.seconds.length ≤ 3 from h)]; simp
theorem uie {p : aq} (h : ¬ p.pages.length ≤ 8) : gj p = false := by
 unfold gj
 rw [decide_eq_false h]; simp
theorem ukm {l : List bz} (r : bz) : kg (iv (l.map (·.id))) r.id (.v (.bool true)) = iv ((l ++ [r]).map (·.id)) := by
 funext x
 unfold kg iv
 rw [List.map_append]
 by_cases hx : x = r.id
 ·simp [hx]
 ·simp [hx]
/-- a side of a page is as it may be -/
def sd (p : aq) (x : av) (b : Bool) : Bool := inB (et b x) (-1) (((eh p b).length : Int) - 1) && ig p.text x (et b x) (dr b x)
def pv (p : aq) (last : Int) (x : av) : Bool := decide (last < x.fr) && decide (x.fr ≤ x.to) && decide (x.to < (mr p.text : Int))
def oz (p : aq) (last : Int) (x : av) : Nat → Bool
 | 0 => pv p last x
 | k + 1 => oz p last x k && sd p x (decide (k = 1))
theorem ugp (p : aq) (last : Int) (x : av) : oz p last x 2 = l7 p last x := by
 show ((pv p last x && sd p x false) && sd p x true) = _
 unfold pv sd l7
 cases decide (last < x.fr) <;> cases decide (x.fr ≤ x.to) <;> cases decide (x.to < (mr p.text : Int)) <;> simp [eh, et, dr, Bool.and_assoc]
/-- where proofs are opened -/
def nd (p : aq) : C := bif decide (ey p = 0) then .elem [lst p.text, lst p.firsts, lst p.seconds, lst p.pages, lst (p.pages.map fun x => (f8 p.text x : Int)), lst (p.pages.map (ei p.text)), lst (p.pages.map (fe p.text))] else .v (.pointer none)
theorem ui9 (m : Nat) (p : aq) : C.low m (nd p) := by
 unfold nd
 cases decide (ey p = 0)
 ·exact .v
 ·refine .elem fun c hc => ?_
  simp only [List.mem_cons, List.not_mem_nil, or_false] at hc
  rcases hc with rfl | rfl | rfl | rfl | rfl | rfl | rfl <;> exact cg m _
theorem ub4 {p : aq} (h : ey p = 0) : nd p = .elem [lst p.text, lst p.firsts, lst p.seconds, lst p.pages, lst (p.pages.map fun x => (f8 p.text x : Int)), lst (p.pages.map (ei p.text)), lst (p.pages.map (fe p.text))] := by unfold nd; rw [decide_eq_true h]; rfl
theorem sq {p : aq} (h : ey p ≠ 0) : nd p = .v (.pointer none) := by unfold nd; rw [decide_eq_false h]; rfl
theorem xc {α : Type} {l : List α} {k : Nat} {x : α} (h : l[k]? = some x) : l.take (k + 1) = l.take k ++ [x] := by rw [List.take_add_one, h]; rfl
theorem nil_len {α : Type} {l : List α} : l = [] ↔ (l.length : Int) = 0 := by
 constructor
 ·rintro rfl; rfl
 ·intro h; exact List.eq_nil_of_length_eq_zero (by omega)
theorem jg {t : ak} {x : av} {l : List PlaceD} {i : Nat} {q : PlaceD} (h : l[i]? = some q) : jr t x l i = (f9 t q && fw t x q && (decide (i = 0) || match l[i - 1]? with | none => true | some a => m5 a q)) := by unfold jr; rw [h]; rfl
theorem ulu {p : aq} (h : dv p.text = false) : ey p = 10 := by unfold ey; rw [h]; rfl
theorem wh {p : aq} (h : dv p.text = true) (hp : gj p = false) : ey p = 90 := by unfold ey; rw [h, hp]; rfl
theorem ulv {p : aq} (h : dv p.text = true) (hp : gj p = true) : ey p = 0 := by unfold ey; rw [h, hp]; rfl
end Go.AB
namespace Go.Proofs.YtgffhbbcpgdjjaaDoor
set_option maxRecDepth 10000
open Go Go.RowKit Go.AB
open Go.AB.Enc (cells)
open Go.PB (ay ak PlaceD bi bk bj bz av aq cy cx dp dm)
set_option maxHeartbeats 4000000 in
theorem ui4 (n : Nat) (p : aq) : n3 n m8 Tryd.prog 39 [val p] (.tup [nd p, .v (.int .i64 (ey p))]) := fun G nx hF hnx => by
 refine oe (G) (nx) Tryd.func39 rfl (.tup (dd (ui9 _ _) (dd .v eg))) zN (fun hlt => zH) ?_
 simp only [Tryd.ntmps39, List.length_cons, List.length_nil, Nat.reduceAdd, Nat.reduceSub]
 refine ci fun hlt => ?_
 dsimp only at hlt
 refine dn fun K1 hK1 => ?_
 refine dg ?_
 try dsimp only [St.put]
 refine aj rfl (ud2 rfl rfl (by simp) ?_)
 refine aa rfl (du rfl (by constructor)) ?_
 refine aa rfl (du rfl (by constructor)) ?_
 refine c4 ?_
 dsimp only [St.put]
 refine hK1 _ ?_
 refine uen ?_
 refine dn fun K2 hK2 => ?_
 refine dn fun K3 hK3 => ?_
 refine dg ?_
 first | refine aa rfl (bw rfl rfl rfl) ?_ | refine aa rfl (cv rfl rfl) ?_
 try dsimp only [St.put]
 refine af rfl (c := fj p.text) (jc (cs := cells p) rfl rfl (show 1 ≤ 4 by decide)) ?_
 try dsimp only [St.put]
 refine aj rfl (bq rfl rfl rfl (ukc p.text) ?_)
 refine aa rfl (du rfl (by constructor)) ?_
 refine c4 ?_
 dsimp only [St.put]
 refine hK3 _ ?_
 refine dn fun K4 hK4 => ?_
 refine dg ?_
 refine aa rfl (cr rfl (by constructor)) ?_
 refine aa rfl (i0 rfl rfl rfl) ?_
 refine c4 ?_
 dsimp only [St.put]
 refine hK4 _ ?_
 refine ar rfl (fun hc => ?_) (fun hc => ?_)
 ·have ht : dv p.text = false := by
   have h0 := ka hc
   unfold jf at h0
   cases h1 : dv p.text
   ·rfl
   ·rw [h1] at h0; exact absurd rfl h0
  have hE : ey p = 10 := ulu ht
  have hR : jf p.text = 10 := by simp [jf, ht]
  refine dn fun K5 hK5 => ?_
  refine dg ?_
  refine aa rfl (cr rfl (by constructor)) ?_
  refine aa rfl (du rfl (by constructor)) ?_
  refine aa rfl (du rfl (by constructor)) ?_
  refine c4 ?_
  dsimp only [St.put]
  refine hK5 _ ?_
  refine aw ?_
  refine ot rfl (by constructor) (by constructor) zN zS ?_ ?_
  ·rw [sq (by rw [hE]; decide)]
  ·rw [hE, hR]
 ·have ht : dv p.text = true := by
   have h0 := jd hc
   unfold jf at h0
   cases h1 : dv p.text
   ·rw [h1] at h0; cases h0
   ·rfl
  obtain ⟨hl1, hl2, hl3⟩ := lj ht
  have hll : mr p.text ≤ 60 := ug ht _ (Nat.le_refl _)
  refine ax ?_
  refine hK2 _ ?_
  refine dn fun K6 hK6 => ?_
  refine dg ?_
  first | refine aa rfl (bw rfl rfl rfl) ?_ | refine aa rfl (cv rfl rfl) ?_
  try dsimp only [St.put]
  refine af rfl (c := fj p.text) (jc (cs := cells p) rfl rfl (show 1 ≤ 4 by decide)) ?_
  try dsimp only [St.put]
  refine aj rfl (bq rfl rfl rfl (uiq p.text ht) ?_)
  refine aa rfl (cr rfl (by constructor)) ?_
  refine aa rfl (su rfl rfl rfl) ?_
  refine aa rfl (su rfl rfl rfl) ?_
  refine aa rfl (du rfl (by constructor)) ?_
  refine aa rfl (du rfl (by constructor)) ?_
  refine c4 ?_
  dsimp only [St.put]
  refine hK6 _ ?_
  refine dn fun K7 hK7 => ?_
  refine dg ?_
  try dsimp only [St.put]
  refine aj rfl (y7 (α := Int) rfl ?_)
  refine aa rfl (du rfl (by constructor)) ?_
  refine c4 ?_
  dsimp only [St.put]
  refine hK7 _ ?_
  refine dn fun K8 hK8 => ?_
  refine dn fun K9 hK9 => ?_
  refine dg ?_
  try dsimp only [St.put]
  refine af rfl (el (n := 6) (m := n) rfl rfl zG rfl) ?_
  refine aa rfl (cr rfl (by constructor)) ?_
  refine c4 ?_
  dsimp only [St.put]
  refine hK9 _ ?_
  refine az ?_
  refine ck 38 ?_
  refine zQ ?_
  refine c6 (ai G nx (ix Tryd.prog 3 0 fun _ => none)) zX ?_
  dsimp only
  refine c5 (X := Nat) (fun k => k ≤ 2 ∧ okR (gz p k) ∧ ((0 < k → p.firsts.length ≤ 3) ∧ (1 < k → p.seconds.length ≤ 3))) (fun k => 2 - k) (fun k => [(9, .any), (11, .any), (37, .v (.int .i64 (k : Int)))]) (fun k G' => (ai G (nx) (ix Tryd.prog 3 (((gz p k).length)) (iv (((gz p k)).map (·.id)))))) 0 rfl ?_ ?_ ?_ ?_ ?_ ?_
  ·exact ⟨by omega, ⟨rfl, List.nodup_nil⟩, fun h => absurd h (Nat.lt_irrefl _), fun h => by omega⟩
  ·exact zF
  ·rw [show iv ((gz p 0).map (·.id)) = fun _ => none from uc2]
   exact zX
  ·rintro k hI
   exact (by (try dsimp only); repeat' (first | exact trivial | refine ⟨?_, ?_⟩ | exact .v | exact .any | refine .elem ?_ | exact cg _ _ | exact gd _ _ | exact fa _ _ | exact gg _ (by (try dsimp only); omega) | exact .box (by (try dsimp only); omega) | exact fp | exact eg | exact iw (j0 _ _) | refine gi ?_ ?_ | exact .arr (by (try dsimp only); omega) | exact .own (by (try dsimp only); omega) | exact .map (by (try dsimp only); omega) | exact fg _ | refine dd ?_ ?_ | exact cg _ _))
  ·rintro k hI
   exact (by (repeat' (refine mb ?_ (by (try dsimp only); omega) ?_)); all_goals (first | exact mc zS | (repeat' (first | exact trivial | refine ⟨?_, ?_⟩ | exact .v | exact .any | refine .elem ?_ | exact cg _ _ | exact gd _ _ | exact fa _ _ | exact gg _ (by (try dsimp only); omega) | exact .box (by (try dsimp only); omega) | exact fp | exact eg | exact iw (j0 _ _) | refine gi ?_ ?_ | exact .arr (by (try dsimp only); omega) | exact .own (by (try dsimp only); omega) | exact .map (by (try dsimp only); omega) | exact fg _ | refine dd ?_ ?_ | exact cg _ _))))
  ·rintro k hI
   dsimp only at hI ⊢
   refine dn fun K10 hK10 => ?_
   refine dg ?_
   refine aa rfl (cj rfl rfl rfl) ?_
   refine c4 ?_
   dsimp only [St.put]
   refine hK10 _ ?_
   refine dn fun K11 hK11 => ?_
   refine ar rfl (fun hc => ?_) (fun hc => ?_)
   ·replace hc := of_decide_eq_true hc
    have hk : k < 2 := by omega
    refine ax ?_
    refine hK11 _ ?_
    refine dn fun K12 hK12 => ?_
    refine az ?_
    refine dn fun K13 hK13 => ?_
    refine dg ?_
    refine aa rfl (ve (k := k) (m := 2) (sz := 3) rfl rfl rfl rfl hk (uj hk)) ?_
    try dsimp only [St.put]
    refine aj rfl (eb rfl ?_)
    try dsimp only [St.put]
    first | refine aj rfl (dj rfl rfl rfl zG rfl rfl (by rfl) ?_) | refine aj rfl (ja rfl rfl rfl zG (by constructor) rfl zO ?_)
    refine c4 ?_
    dsimp only [St.put]
    refine hK13 _ ?_
    refine gt (i := 9) rfl zG zC ?_
    dsimp only
    refine dn fun K14 hK14 => ?_
    refine dn fun K15 hK15 => ?_
    refine dg ?_
    first | refine aa rfl (bw rfl rfl rfl) ?_ | refine aa rfl (cv rfl rfl) ?_
    try dsimp only [St.put]
    first | refine af rfl (bf rfl rfl) ?_ | refine af rfl (bv rfl rfl (Enc.len _)) ?_ | refine af rfl (bv rfl rfl rfl) ?_ | refine af rfl (c7 rfl rfl zG trivial (by first | rfl | assumption)) ?_ | refine af rfl (d7 rfl rfl zG trivial (by rfl)) ?_ | refine af rfl (er rfl rfl zG trivial (by simp)) ?_ | refine af rfl (co rfl rfl zG trivial (em (by assumption) rfl)) ?_ | refine af rfl (co rfl rfl zG trivial (by assumption)) ?_ | refine af rfl (ez rfl rfl zG trivial rfl (by assumption) rfl (by decide)) ?_ | refine af rfl (el rfl rfl zG (by rfl)) ?_
    try dsimp only [St.put]
    first | refine af rfl (bf rfl rfl) ?_ | refine af rfl (bv rfl rfl (Enc.len _)) ?_ | refine af rfl (bv rfl rfl rfl) ?_ | refine af rfl (c7 rfl rfl zG trivial (by first | rfl | assumption)) ?_ | refine af rfl (d7 rfl rfl zG trivial (by rfl)) ?_ | refine af rfl (er rfl rfl zG trivial (by simp)) ?_ | refine af rfl (co rfl rfl zG trivial (em (by assumption) rfl)) ?_ | refine af rfl (co rfl rfl zG trivial (by assumption)) ?_ | refine af rfl (ez rfl rfl zG trivial rfl (by assumption) rfl (by decide)) ?_ | refine af rfl (el rfl rfl zG (by rfl)) ?_
    try dsimp only [St.put]
    refine aj rfl (bq rfl rfl rfl (pr (decide (k = 1)) p) ?_)
    first | refine aa rfl (ba rfl rfl (List.length_map _)) ?_ | refine aa rfl (ba rfl rfl rfl) ?_ | refine aa rfl (l9 rfl rfl) ?_ | refine aa rfl (pa rfl rfl) ?_ | refine aa rfl (oh rfl rfl) ?_ | refine aa rfl (o9 rfl rfl (by omega)) ?_
    refine aa rfl (iu rfl rfl rfl) ?_
    refine c4 ?_
    dsimp only [St.put]
    refine hK15 _ ?_
    refine ar rfl (fun hc => ?_) (fun hc => ?_)
    ·have hs3 : ¬ (eh p (decide (k = 1))).length ≤ 3 := by
      have := of_decide_eq_true hc
      omega
     have hE : ey p = 90 := wh ht (ujw hs3)
     refine dn fun K16 hK16 => ?_
     refine dg ?_
     refine aa rfl (du rfl (by constructor)) ?_
     refine aa rfl (du rfl (by constructor)) ?_
     refine c4 ?_
     dsimp only [St.put]
     refine hK16 _ ?_
     refine aw ?_
     refine ot rfl (by constructor) (by constructor) zN zS ?_ ?_
     ·rw [sq (by rw [hE]; decide)]
     ·rw [hE]
    ·have hs3 : (eh p (decide (k = 1))).length ≤ 3 := by
      have := of_decide_eq_false hc
      omega
     refine ax ?_
     refine hK14 _ ?_
     refine dn fun K17 hK17 => ?_
     refine dg ?_
     first | refine aa rfl (bw rfl rfl rfl) ?_ | refine aa rfl (cv rfl rfl) ?_
     try dsimp only [St.put]
     first | refine af rfl (bf rfl rfl) ?_ | refine af rfl (bv rfl rfl (Enc.len _)) ?_ | refine af rfl (bv rfl rfl rfl) ?_ | refine af rfl (c7 rfl rfl zG trivial (by first | rfl | assumption)) ?_ | refine af rfl (d7 rfl rfl zG trivial (by rfl)) ?_ | refine af rfl (er rfl rfl zG trivial (by simp)) ?_ | refine af rfl (co rfl rfl zG trivial (em (by assumption) rfl)) ?_ | refine af rfl (co rfl rfl zG trivial (by assumption)) ?_ | refine af rfl (ez rfl rfl zG trivial rfl (by assumption) rfl (by decide)) ?_ | refine af rfl (el rfl rfl zG (by rfl)) ?_
     try dsimp only [St.put]
     first | refine af rfl (bf rfl rfl) ?_ | refine af rfl (bv rfl rfl (Enc.len _)) ?_ | refine af rfl (bv rfl rfl rfl) ?_ | refine af rfl (c7 rfl rfl zG trivial (by first | rfl | assumption)) ?_ | refine af rfl (d7 rfl rfl zG trivial (by rfl)) ?_ | refine af rfl (er rfl rfl zG trivial (by simp)) ?_ | refine af rfl (co rfl rfl zG trivial (em (by assumption) rfl)) ?_ | refine af rfl (co rfl rfl zG trivial (by assumption)) ?_ | refine af rfl (ez rfl rfl zG trivial rfl (by assumption) rfl (by decide)) ?_ | refine af rfl (el rfl rfl zG (by rfl)) ?_
     try dsimp only [St.put]
     refine aj rfl (bq rfl rfl rfl (pr (decide (k = 1)) p) ?_)
     first | refine aa rfl (ba rfl rfl (List.length_map _)) ?_ | refine aa rfl (ba rfl rfl rfl) ?_ | refine aa rfl (l9 rfl rfl) ?_ | refine aa rfl (pa rfl rfl) ?_ | refine aa rfl (oh rfl rfl) ?_ | refine aa rfl (o9 rfl rfl (by omega)) ?_
     refine aa rfl (cr rfl (by constructor)) ?_
     refine c4 ?_
     dsimp only [St.put]
     rw [show iv ((gz p k).map (·.id)) = iv ((gz p k ++ (eh p (decide (k = 1))).take 0).map (·.id)) by simp]
     refine hK17 _ ?_
     refine az ?_
     refine ck 52 ?_
     refine zQ ?_
     refine c6 ((ai G (nx) (ix Tryd.prog 3 (((gz p k).length)) (iv (((gz p k ++ (eh p (decide (k = 1))).take 0)).map (·.id)))))) zX ?_
     dsimp only
     refine c5 (X := Nat) (fun i => i ≤ (eh p (decide (k = 1))).length ∧ okR (gz p k ++ (eh p (decide (k = 1))).take i)) (fun i => (eh p (decide (k = 1))).length - i) (fun i => [(11, .any), (51, .v (.int .i64 (i : Int)))]) (fun i G' => (ai G (nx) (ix Tryd.prog 3 (((gz p k ++ (eh p (decide (k = 1))).take i).length)) (iv (((gz p k ++ (eh p (decide (k = 1))).take i)).map (·.id)))))) 0 rfl ?_ ?_ ?_ ?_ ?_ ?_
     ·exact ⟨Nat.zero_le _, by simpa using hI.2.1⟩
     ·exact zF
     ·rw [show (gz p k ++ (eh p (decide (k = 1))).take 0).length = (gz p k).length by simp]
      exact zX
     ·rintro i hI
      exact (by (try dsimp only); repeat' (first | exact trivial | refine ⟨?_, ?_⟩ | exact .v | exact .any | refine .elem ?_ | exact cg _ _ | exact gd _ _ | exact fa _ _ | exact gg _ (by (try dsimp only); omega) | exact .box (by (try dsimp only); omega) | exact fp | exact eg | exact iw (j0 _ _) | refine gi ?_ ?_ | exact .arr (by (try dsimp only); omega) | exact .own (by (try dsimp only); omega) | exact .map (by (try dsimp only); omega) | exact fg _ | refine dd ?_ ?_ | exact cg _ _))
     ·rintro i hI
      exact (by (repeat' (refine mb ?_ (by (try dsimp only); omega) ?_)); all_goals (first | exact mc zS | (repeat' (first | exact trivial | refine ⟨?_, ?_⟩ | exact .v | exact .any | refine .elem ?_ | exact cg _ _ | exact gd _ _ | exact fa _ _ | exact gg _ (by (try dsimp only); omega) | exact .box (by (try dsimp only); omega) | exact fp | exact eg | exact iw (j0 _ _) | refine gi ?_ ?_ | exact .arr (by (try dsimp only); omega) | exact .own (by (try dsimp only); omega) | exact .map (by (try dsimp only); omega) | exact fg _ | refine dd ?_ ?_ | exact cg _ _))))
     ·rintro i hJ
      dsimp only at hJ ⊢
      refine dn fun K18 hK18 => ?_
      refine dg ?_
      refine aa rfl (cj rfl rfl rfl) ?_
      refine c4 ?_
      dsimp only [St.put]
      refine hK18 _ ?_
      refine dn fun K19 hK19 => ?_
      refine ar rfl (fun hc => ?_) (fun hc => ?_)
      ·replace hc := of_decide_eq_true hc
       obtain ⟨r, hr⟩ : ∃ r, (eh p (decide (k = 1)))[i]? = some r := da (by omega)
       obtain ⟨L, hL⟩ : ∃ L, gz p k ++ (eh p (decide (k = 1))).take i = L := ⟨_, rfl⟩
       refine ax ?_
       refine hK19 _ ?_
       refine dn fun K20 hK20 => ?_
       refine az ?_
       refine dn fun K21 hK21 => ?_
       refine dg ?_
       try dsimp only [St.put]
       first | refine aa rfl (bn rfl rfl rfl rfl (bp (by assumption)) (Enc.len _)) ?_ | refine aa rfl (bn rfl rfl rfl rfl (by assumption) rfl) ?_ | refine aa rfl (vf rfl rfl rfl (by first | exact vv _ | exact rfl) (by omega)) ?_ | refine aa rfl (bn rfl rfl rfl (by omega) (bp (by assumption)) (Enc.len _)) ?_
       try dsimp only [St.put]
       first | refine af rfl (bf rfl rfl) ?_ | refine af rfl (bv rfl rfl (Enc.len _)) ?_ | refine af rfl (bv rfl rfl rfl) ?_ | refine af rfl (c7 rfl rfl zG trivial (by first | rfl | assumption)) ?_ | refine af rfl (d7 rfl rfl zG trivial (by rfl)) ?_ | refine af rfl (er rfl rfl zG trivial (by simp)) ?_ | refine af rfl (co rfl rfl zG trivial (em (by assumption) rfl)) ?_ | refine af rfl (co rfl rfl zG trivial (by assumption)) ?_ | refine af rfl (ez rfl rfl zG trivial rfl (by assumption) rfl (by decide)) ?_ | refine af rfl (el rfl rfl zG (by rfl)) ?_
       try dsimp only [St.put]
       refine aj rfl (eb rfl ?_)
       try dsimp only [St.put]
       first | refine aj rfl (dj rfl rfl rfl zG rfl rfl (by rfl) ?_) | refine aj rfl (ja rfl rfl rfl zG (by constructor) rfl zO ?_)
       refine c4 ?_
       dsimp only [St.put]
       refine hK21 _ ?_
       refine gt (i := 11) rfl zG zC ?_
       dsimp only
       refine dn fun K22 hK22 => ?_
       refine ck 52 ?_
       refine zQ ?_
       refine km (X := Bool) (fun d => d = !(gu r && !decide (r.id ∈ (gz p k ++ (eh p (decide (k = 1))).take i).map (·.id)))) (fun d => [(72, .v (.bool d))]) (fun d G' => G') rfl ?_ (fun _ _ _ _ h => .inl h) ?_ ?_
       ·rintro d hI
        exact (by (try dsimp only); repeat' (first | exact trivial | refine ⟨?_, ?_⟩ | exact .v | exact .any | refine .elem ?_ | exact cg _ _ | exact gd _ _ | exact fa _ _ | exact gg _ (by (try dsimp only); omega) | exact .box (by (try dsimp only); omega) | exact fp | exact eg | exact iw (j0 _ _) | refine gi ?_ ?_ | exact .arr (by (try dsimp only); omega) | exact .own (by (try dsimp only); omega) | exact .map (by (try dsimp only); omega) | exact fg _ | refine dd ?_ ?_ | exact cg _ _))
       ·refine dg ?_
        first | refine aa rfl (bw rfl rfl rfl) ?_ | refine aa rfl (cv rfl rfl) ?_
        try dsimp only [St.put]
        first | refine af rfl (bf rfl rfl) ?_ | refine af rfl (bv rfl rfl (Enc.len _)) ?_ | refine af rfl (bv rfl rfl rfl) ?_ | refine af rfl (c7 rfl rfl zG trivial (by first | rfl | assumption)) ?_ | refine af rfl (d7 rfl rfl zG trivial (by rfl)) ?_ | refine af rfl (er rfl rfl zG trivial (by simp)) ?_ | refine af rfl (co rfl rfl zG trivial (em (by assumption) rfl)) ?_ | refine af rfl (co rfl rfl zG trivial (by assumption)) ?_ | refine af rfl (ez rfl rfl zG trivial rfl (by assumption) rfl (by decide)) ?_ | refine af rfl (el rfl rfl zG (by rfl)) ?_
        try dsimp only [St.put]
        refine aj rfl (fh rfl rfl rfl (by decide) (by decide) zR (by decide) ?_)
        try dsimp only [St.put]
        refine aj rfl (bq rfl rfl rfl (o8 _ _ [_]) ?_)
        refine aa rfl (ef rfl rfl) ?_
        refine aa rfl (cr rfl (by constructor)) ?_
        refine eo (fun hs => ?_) (fun hs => ?_)
        ·have h5 : inB r.id 0 9999 = false := by rw [ia] at hs; simpa using hs
         refine ec rfl ?_
         refine ec rfl ?_
         refine ec rfl ?_
         refine ec rfl ?_
         first | refine aa rfl (cm rfl rfl (by constructor)) ?_ | refine aa rfl (ce rfl rfl (by constructor)) ?_ | refine aa rfl (gp rfl rfl rfl rfl) ?_ | refine aa rfl (gn rfl rfl rfl rfl) ?_
         refine aa rfl (cr rfl (by constructor)) ?_
         refine ec rfl ?_
         refine ec rfl ?_
         refine ec rfl ?_
         refine ec rfl ?_
         refine ec rfl ?_
         first | refine aa rfl (cm rfl rfl (by constructor)) ?_ | refine aa rfl (ce rfl rfl (by constructor)) ?_ | refine aa rfl (gp rfl rfl rfl rfl) ?_ | refine aa rfl (gn rfl rfl rfl rfl) ?_
         refine c4 ?_
         dsimp only [St.put]
         refine ⟨_, ?_, ⟨⟨rfl, rfl⟩, zF, zB, zN, zX⟩⟩
         unfold gu
         first
         | (rw [h5]; simp; done)
         | (rw [decide_eq_true h11]; simp; done)
         | (rw [h5, decide_eq_false h11, ia]; simp)
        ·have h5 : inB r.id 0 9999 = true := by rw [ia] at hs; simpa using hs
         refine aa rfl (cr rfl (by constructor)) ?_
         first | refine aa rfl (bw rfl rfl rfl) ?_ | refine aa rfl (cv rfl rfl) ?_
         try dsimp only [St.put]
         first | refine af rfl (bf rfl rfl) ?_ | refine af rfl (bv rfl rfl (Enc.len _)) ?_ | refine af rfl (bv rfl rfl rfl) ?_ | refine af rfl (c7 rfl rfl zG trivial (by first | rfl | assumption)) ?_ | refine af rfl (d7 rfl rfl zG trivial (by rfl)) ?_ | refine af rfl (er rfl rfl zG trivial (by simp)) ?_ | refine af rfl (co rfl rfl zG trivial (em (by assumption) rfl)) ?_ | refine af rfl (co rfl rfl zG trivial (by assumption)) ?_ | refine af rfl (ez rfl rfl zG trivial rfl (by assumption) rfl (by decide)) ?_ | refine af rfl (el rfl rfl zG (by rfl)) ?_
         try dsimp only [St.put]
         refine af rfl (um r.id rfl rfl zG trivial rfl (uc3 _ _)) ?_
         first | refine aa rfl (cm rfl rfl (by constructor)) ?_ | refine aa rfl (ce rfl rfl (by constructor)) ?_ | refine aa rfl (gp rfl rfl rfl rfl) ?_ | refine aa rfl (gn rfl rfl rfl rfl) ?_
         refine aa rfl (cr rfl (by constructor)) ?_
         refine eo (fun hs => ?_) (fun hs => ?_)
         ·have h11 := of_decide_eq_true hs
          refine ec rfl ?_
          refine ec rfl ?_
          refine ec rfl ?_
          refine ec rfl ?_
          refine ec rfl ?_
          first | refine aa rfl (cm rfl rfl (by constructor)) ?_ | refine aa rfl (ce rfl rfl (by constructor)) ?_ | refine aa rfl (gp rfl rfl rfl rfl) ?_ | refine aa rfl (gn rfl rfl rfl rfl) ?_
          refine c4 ?_
          dsimp only [St.put]
          refine ⟨_, ?_, ⟨⟨rfl, rfl⟩, zF, zB, zN, zX⟩⟩
          unfold gu
          first
          | (rw [h5]; simp; done)
          | (rw [decide_eq_true h11]; simp; done)
          | (rw [h5, decide_eq_false h11, ia]; simp)
         ·have h11 := of_decide_eq_false hs
          first | refine aa rfl (bw rfl rfl rfl) ?_ | refine aa rfl (cv rfl rfl) ?_
          try dsimp only [St.put]
          first | refine af rfl (bf rfl rfl) ?_ | refine af rfl (bv rfl rfl (Enc.len _)) ?_ | refine af rfl (bv rfl rfl rfl) ?_ | refine af rfl (c7 rfl rfl zG trivial (by first | rfl | assumption)) ?_ | refine af rfl (d7 rfl rfl zG trivial (by rfl)) ?_ | refine af rfl (er rfl rfl zG trivial (by simp)) ?_ | refine af rfl (co rfl rfl zG trivial (em (by assumption) rfl)) ?_ | refine af rfl (co rfl rfl zG trivial (by assumption)) ?_ | refine af rfl (ez rfl rfl zG trivial rfl (by assumption) rfl (by decide)) ?_ | refine af rfl (el rfl rfl zG (by rfl)) ?_
          try dsimp only [St.put]
          refine aj rfl (fh rfl rfl rfl (by decide) (by decide) zR (by decide) ?_)
          try dsimp only [St.put]
          refine aj rfl (bq rfl rfl rfl (o8 _ _ [_]) ?_)
          refine aa rfl (ef rfl rfl) ?_
          first | refine aa rfl (cm rfl rfl (by constructor)) ?_ | refine aa rfl (ce rfl rfl (by constructor)) ?_ | refine aa rfl (gp rfl rfl rfl rfl) ?_ | refine aa rfl (gn rfl rfl rfl rfl) ?_
          refine c4 ?_
          dsimp only [St.put]
          refine ⟨_, ?_, ⟨⟨rfl, rfl⟩, zF, zB, zN, zX⟩⟩
          unfold gu
          first
          | (rw [h5]; simp; done)
          | (rw [decide_eq_true h11]; simp; done)
          | (rw [h5, decide_eq_false h11, ia]; simp)
       ·rintro d hst
        dsimp only at hst ⊢
        refine ar rfl (fun hc => ?_) (fun hc => ?_)
        ·have hbad : gu r = false ∨ r.id ∈ (gz p k ++ (eh p (decide (k = 1))).take i).map (·.id) := by
          rw [hc] at hst
          cases h1 : gu r
          ·exact .inl rfl
          ·rw [h1] at hst
           right
           exact Classical.byContradiction fun h2 => by rw [decide_eq_false h2] at hst; cases hst
         have hE : ey p = 90 := wh ht (uhn hk hr hbad)
         refine dn fun K24 hK24 => ?_
         refine dg ?_
         refine aa rfl (du rfl (by constructor)) ?_
         refine aa rfl (du rfl (by constructor)) ?_
         refine c4 ?_
         dsimp only [St.put]
         refine hK24 _ ?_
         refine aw ?_
         refine ot rfl (by constructor) (by constructor) zN zS ?_ ?_
         ·rw [sq (by rw [hE]; decide)]
         ·rw [hE]
        ·have hgood : gu r = true ∧ r.id ∉ (gz p k ++ (eh p (decide (k = 1))).take i).map (·.id) := by
          rw [hc] at hst
          cases h1 : gu r
          ·rw [h1] at hst; cases hst
          ·rw [h1] at hst
           exact ⟨rfl, fun h2 => by rw [decide_eq_true h2] at hst; cases hst⟩
         refine ax ?_
         refine hK22 _ ?_
         refine dg ?_
         refine aa rfl (cr rfl (by constructor)) ?_
         first | refine aa rfl (bw rfl rfl rfl) ?_ | refine aa rfl (cv rfl rfl) ?_
         try dsimp only [St.put]
         first | refine af rfl (bf rfl rfl) ?_ | refine af rfl (bv rfl rfl (Enc.len _)) ?_ | refine af rfl (bv rfl rfl rfl) ?_ | refine af rfl (c7 rfl rfl zG trivial (by first | rfl | assumption)) ?_ | refine af rfl (d7 rfl rfl zG trivial (by rfl)) ?_ | refine af rfl (er rfl rfl zG trivial (by simp)) ?_ | refine af rfl (co rfl rfl zG trivial (em (by assumption) rfl)) ?_ | refine af rfl (co rfl rfl zG trivial (by assumption)) ?_ | refine af rfl (ez rfl rfl zG trivial rfl (by assumption) rfl (by decide)) ?_ | refine af rfl (el rfl rfl zG (by rfl)) ?_
         try dsimp only [St.put]
         refine aj rfl (tn (r.id) rfl rfl rfl zG rfl ((show kg (iv ((gz p k ++ (eh p (decide (k = 1))).take i).map (·.id))) r.id (.v (.bool true)) = iv ((gz p k ++ (eh p (decide (k = 1))).take (i + 1)).map (·.id)) from by rw [xc hr, ← List.append_assoc]; exact ukm r)) ?_)
         refine c4 ?_
         dsimp only [St.put]
         refine hK20 _ ?_
         refine dg ?_
         first | refine aa rfl (bu rfl rfl rfl (by omega)) ?_ | refine aa rfl (kf rfl rfl rfl) ?_
         refine aa rfl (cr rfl (by constructor)) ?_
         refine c4 ?_
         dsimp only [St.put]
         rw [show (gz p k ++ (eh p (decide (k = 1))).take i).length + 1 = (gz p k ++ (eh p (decide (k = 1))).take (i + 1)).length by rw [xc hr, ← List.append_assoc, List.length_append (bs := [r])]; rfl]
         exact ⟨i + 1, by omega, ⟨by omega, by rw [xc hr, ← List.append_assoc]; exact ui8 hJ.2 hgood.1 hgood.2⟩, ⟨⟨rfl, rfl⟩, zF, zB, zN, zX⟩⟩
      ·replace hc := of_decide_eq_false hc
       refine cw ?_
       refine hK12 _ ?_
       refine dg ?_
       first | refine aa rfl (bu rfl rfl rfl (by omega)) ?_ | refine aa rfl (kf rfl rfl rfl) ?_
       refine aa rfl (cr rfl (by constructor)) ?_
       refine c4 ?_
       dsimp only [St.put]
       rw [show gz p k ++ (eh p (decide (k = 1))).take i = gz p (k + 1) by rw [ug2 hk, ff (by omega)]] at hJ ⊢
       exact ⟨k + 1, by omega, ⟨by omega, hJ.2, by
        have h3 := hI.2.2
        by_cases e : k = 0
        ·subst e; exact ⟨fun _ => hs3, fun h => by omega⟩
        ·have e1 : k = 1 := by omega
         subst e1; exact ⟨fun _ => h3.1 (by omega), fun _ => hs3⟩⟩, ⟨⟨rfl, rfl⟩, zF, zB, zN, zX⟩⟩
   ·replace hc := of_decide_eq_false hc
    obtain rfl : k = 2 := by omega
    have hRB : jx p = true := by
     unfold jx
     have h2 := hI.2.1
     have h3 := hI.2.2
     rw [decide_eq_true (h3.1 (by omega)), decide_eq_true (h3.2 (by omega)), show (p.firsts ++ p.seconds).all gu = true from h2.1, decide_eq_true (show ((p.firsts ++ p.seconds).map (·.id)).Nodup from h2.2)]; rfl
    have hn1 : p.firsts.length ≤ 3 := hI.2.2.1 (by omega)
    have hn2 : p.seconds.length ≤ 3 := hI.2.2.2 (by omega)
    have hsl : ∀ b, (eh p b).length ≤ 3 := fun b => by cases b; exact hn1; exact hn2
    refine cw ?_
    refine hK8 _ ?_
    refine dn fun K25 hK25 => ?_
    refine dn fun K26 hK26 => ?_
    refine dg ?_
    first | refine aa rfl (bw rfl rfl rfl) ?_ | refine aa rfl (cv rfl rfl) ?_
    try dsimp only [St.put]
    first | refine af rfl (bf rfl rfl) ?_ | refine af rfl (bv rfl rfl (Enc.len _)) ?_ | refine af rfl (bv rfl rfl rfl) ?_ | refine af rfl (c7 rfl rfl zG trivial (by first | rfl | assumption)) ?_ | refine af rfl (d7 rfl rfl zG trivial (by rfl)) ?_ | refine af rfl (er rfl rfl zG trivial (by simp)) ?_ | refine af rfl (co rfl rfl zG trivial (em (by assumption) rfl)) ?_ | refine af rfl (co rfl rfl zG trivial (by assumption)) ?_ | refine af rfl (ez rfl rfl zG trivial rfl (by assumption) rfl (by decide)) ?_ | refine af rfl (el rfl rfl zG (by rfl)) ?_
    first | refine aa rfl (ba rfl rfl (List.length_map _)) ?_ | refine aa rfl (ba rfl rfl rfl) ?_ | refine aa rfl (l9 rfl rfl) ?_ | refine aa rfl (pa rfl rfl) ?_ | refine aa rfl (oh rfl rfl) ?_ | refine aa rfl (o9 rfl rfl (by omega)) ?_
    refine aa rfl (iu rfl rfl rfl) ?_
    refine c4 ?_
    dsimp only [St.put]
    refine hK26 _ ?_
    refine ar rfl (fun hc => ?_) (fun hc => ?_)
    ·have hnp : ¬ p.pages.length ≤ 8 := by
      have := of_decide_eq_true hc
      omega
     have hE : ey p = 90 := wh ht (uie hnp)
     refine dn fun K27 hK27 => ?_
     refine dg ?_
     refine aa rfl (du rfl (by constructor)) ?_
     refine aa rfl (du rfl (by constructor)) ?_
     refine c4 ?_
     dsimp only [St.put]
     refine hK27 _ ?_
     refine aw ?_
     refine ot rfl (by constructor) (by constructor) zN zS ?_ ?_
     ·rw [sq (by rw [hE]; decide)]
     ·rw [hE]
    ·have hnp : p.pages.length ≤ 8 := by
      have := of_decide_eq_false hc
      omega
     refine ax ?_
     refine hK25 _ ?_
     refine dn fun K28 hK28 => ?_
     refine dg ?_
     try dsimp only [St.put]
     first | refine af rfl (bf rfl rfl) ?_ | refine af rfl (bv rfl rfl (Enc.len _)) ?_ | refine af rfl (bv rfl rfl rfl) ?_ | refine af rfl (c7 rfl rfl zG trivial (by first | rfl | assumption)) ?_ | refine af rfl (d7 rfl rfl zG trivial (by rfl)) ?_ | refine af rfl (er rfl rfl zG trivial (by simp)) ?_ | refine af rfl (co rfl rfl zG trivial (em (by assumption) rfl)) ?_ | refine af rfl (co rfl rfl zG trivial (by assumption)) ?_ | refine af rfl (ez rfl rfl zG trivial rfl (by assumption) rfl (by decide)) ?_ | refine af rfl (el rfl rfl zG (by rfl)) ?_
     refine aa rfl (je rfl rfl) ?_
     try dsimp only [St.put]
     refine aj rfl (y9 rfl rfl ?_)
     refine aa rfl (du rfl (by constructor)) ?_
     refine c4 ?_
     dsimp only [St.put]
     refine hK28 _ ?_
     refine nz (nx + 1) 4 _ _ 3 1 zG rfl (by decide) ?_
     refine nz (nx + 1) 5 _ _ 36 1 zG rfl (by decide) ?_
     refine nz (nx + 1) 6 _ _ 36 1 zG rfl (by decide) ?_
     dsimp only [List.set_cons_zero, List.set_cons_succ]
     refine dn fun K29 hK29 => ?_
     refine dg ?_
     refine aa rfl (du rfl (by constructor)) ?_
     refine c4 ?_
     dsimp only [St.put]
     refine hK29 _ ?_
     refine dn fun K30 hK30 => ?_
     refine dg ?_
     refine aa rfl (du rfl (by constructor)) ?_
     refine c4 ?_
     dsimp only [St.put]
     refine hK30 _ ?_
     refine dn fun K31 hK31 => ?_
     refine ueq ?_
     refine hK31 _ ?_
     refine dn fun K32 hK32 => ?_
     refine dn fun K33 hK33 => ?_
     refine dg ?_
     first | refine aa rfl (bw rfl rfl rfl) ?_ | refine aa rfl (cv rfl rfl) ?_
     try dsimp only [St.put]
     first | refine af rfl (bf rfl rfl) ?_ | refine af rfl (bv rfl rfl (Enc.len _)) ?_ | refine af rfl (bv rfl rfl rfl) ?_ | refine af rfl (c7 rfl rfl zG trivial (by first | rfl | assumption)) ?_ | refine af rfl (d7 rfl rfl zG trivial (by rfl)) ?_ | refine af rfl (er rfl rfl zG trivial (by simp)) ?_ | refine af rfl (co rfl rfl zG trivial (em (by assumption) rfl)) ?_ | refine af rfl (co rfl rfl zG trivial (by assumption)) ?_ | refine af rfl (ez rfl rfl zG trivial rfl (by assumption) rfl (by decide)) ?_ | refine af rfl (el rfl rfl zG (by rfl)) ?_
     first | refine aa rfl (ba rfl rfl (List.length_map _)) ?_ | refine aa rfl (ba rfl rfl rfl) ?_ | refine aa rfl (l9 rfl rfl) ?_ | refine aa rfl (pa rfl rfl) ?_ | refine aa rfl (oh rfl rfl) ?_ | refine aa rfl (o9 rfl rfl (by omega)) ?_
     refine aa rfl (cr rfl (by constructor)) ?_
     refine c4 ?_
     dsimp only [St.put]
     refine hK33 _ ?_
     refine az ?_
     refine ck 89 ?_
     refine zQ ?_
     refine c6 ((ai (ai (ai (ai G (nx + 1) (.box (0 + 0 + 0) [lst p.text, lst p.firsts, lst p.seconds, lst p.pages, .list (((p.pages.take 0).map fun x => (f8 p.text x : Int)).map cells) (.tip (nx + 1 + 1)), .list (((p.pages.take 0).map (ei p.text)).map cells) (.tip (nx + 1 + 1 + 1)), .list (((p.pages.take 0).map (fe p.text)).map cells) (.tip (nx + 1 + 1 + 1 + 1))])) (nx + 1 + 1) (.tip ((p.pages.take 0).map fun x => (f8 p.text x : Int)).length 3 1)) (nx + 1 + 1 + 1) (.tip ((p.pages.take 0).map (ei p.text)).length 36 1)) (nx + 1 + 1 + 1 + 1) (.tip ((p.pages.take 0).map (fe p.text)).length 36 1))) zX ?_
     dsimp only
     refine c5 (X := Nat) (fun j => j ≤ p.pages.length ∧ px p j = true) (fun j => p.pages.length - j) (fun j => [(13, .v (.int .i64 (ip p.pages j))), (16, .any), (18, .any), (19, .any), (20, .any), (21, .any), (22, .any), (88, .v (.int .i64 (j : Int)))]) (fun j G' => (ai (ai (ai (ai G (nx + 1) (.box (j + j + j) [lst p.text, lst p.firsts, lst p.seconds, lst p.pages, .list (((p.pages.take j).map fun x => (f8 p.text x : Int)).map cells) (.tip (nx + 1 + 1)), .list (((p.pages.take j).map (ei p.text)).map cells) (.tip (nx + 1 + 1 + 1)), .list (((p.pages.take j).map (fe p.text)).map cells) (.tip (nx + 1 + 1 + 1 + 1))])) (nx + 1 + 1) (.tip ((p.pages.take j).map fun x => (f8 p.text x : Int)).length 3 1)) (nx + 1 + 1 + 1) (.tip ((p.pages.take j).map (ei p.text)).length 36 1)) (nx + 1 + 1 + 1 + 1) (.tip ((p.pages.take j).map (fe p.text)).length 36 1))) 0 rfl ?_ ?_ ?_ ?_ ?_ ?_
     ·exact ⟨Nat.zero_le _, rfl⟩
     ·exact zF
     ·exact zX
     ·rintro j hI
      exact (by (try dsimp only); repeat' (first | exact trivial | refine ⟨?_, ?_⟩ | exact .v | exact .any | refine .elem ?_ | exact cg _ _ | exact gd _ _ | exact fa _ _ | exact gg _ (by (try dsimp only); omega) | exact .box (by (try dsimp only); omega) | exact fp | exact eg | exact iw (j0 _ _) | refine gi ?_ ?_ | exact .arr (by (try dsimp only); omega) | exact .own (by (try dsimp only); omega) | exact .map (by (try dsimp only); omega) | exact fg _ | refine dd ?_ ?_ | exact cg _ _))
     ·rintro j hI
      exact (by (repeat' (refine mb ?_ (by (try dsimp only); omega) ?_)); all_goals (first | exact mc zS | (repeat' (first | exact trivial | refine ⟨?_, ?_⟩ | exact .v | exact .any | refine .elem ?_ | exact cg _ _ | exact gd _ _ | exact fa _ _ | exact gg _ (by (try dsimp only); omega) | exact .box (by (try dsimp only); omega) | exact fp | exact eg | exact iw (j0 _ _) | refine gi ?_ ?_ | exact .arr (by (try dsimp only); omega) | exact .own (by (try dsimp only); omega) | exact .map (by (try dsimp only); omega) | exact fg _ | refine dd ?_ ?_ | exact cg _ _))))
     ·rintro j hK
      dsimp only at hK ⊢
      refine dn fun K34 hK34 => ?_
      refine dg ?_
      refine aa rfl (cj rfl rfl rfl) ?_
      refine c4 ?_
      dsimp only [St.put]
      refine hK34 _ ?_
      refine dn fun K35 hK35 => ?_
      refine ar rfl (fun hc => ?_) (fun hc => ?_)
      ·replace hc := of_decide_eq_true hc
       obtain ⟨x, hx⟩ : ∃ x, p.pages[j]? = some x := da (by omega)
       refine ax ?_
       refine hK35 _ ?_
       refine dn fun K36 hK36 => ?_
       refine az ?_
       refine dn fun K37 hK37 => ?_
       refine dg ?_
       try dsimp only [St.put]
       first | refine aa rfl (bn rfl rfl rfl rfl (bp (by assumption)) (Enc.len _)) ?_ | refine aa rfl (bn rfl rfl rfl rfl (by assumption) rfl) ?_ | refine aa rfl (vf rfl rfl rfl (by first | exact vv _ | exact rfl) (by omega)) ?_ | refine aa rfl (bn rfl rfl rfl (by omega) (bp (by assumption)) (Enc.len _)) ?_
       try dsimp only [St.put]
       first | refine af rfl (bf rfl rfl) ?_ | refine af rfl (bv rfl rfl (Enc.len _)) ?_ | refine af rfl (bv rfl rfl rfl) ?_ | refine af rfl (c7 rfl rfl zG trivial (by first | rfl | assumption)) ?_ | refine af rfl (d7 rfl rfl zG trivial (by rfl)) ?_ | refine af rfl (er rfl rfl zG trivial (by simp)) ?_ | refine af rfl (co rfl rfl zG trivial (em (by assumption) rfl)) ?_ | refine af rfl (co rfl rfl zG trivial (by assumption)) ?_ | refine af rfl (ez rfl rfl zG trivial rfl (by assumption) rfl (by decide)) ?_ | refine af rfl (el rfl rfl zG (by rfl)) ?_
       try dsimp only [St.put]
       refine aj rfl (eb rfl ?_)
       try dsimp only [St.put]
       first | refine aj rfl (dj rfl rfl rfl zG rfl rfl (by rfl) ?_) | refine aj rfl (ja rfl rfl rfl zG (by constructor) rfl zO ?_)
       refine c4 ?_
       dsimp only [St.put]
       refine hK37 _ ?_
       refine gt (i := 16) rfl zG zC ?_
       dsimp only
       refine ck 89 ?_
       refine zQ ?_
       refine km (X := Bool) (fun d0 => d0 = pv p (ip p.pages j) x) (fun d0 => [(14, .v (.bool d0))]) (fun d0 G' => G') rfl ?_ (fun _ _ _ _ h => .inl h) ?_ ?_
       ·rintro d0 hI
        exact (by (try dsimp only); repeat' (first | exact trivial | refine ⟨?_, ?_⟩ | exact .v | exact .any | refine .elem ?_ | exact cg _ _ | exact gd _ _ | exact fa _ _ | exact gg _ (by (try dsimp only); omega) | exact .box (by (try dsimp only); omega) | exact fp | exact eg | exact iw (j0 _ _) | refine gi ?_ ?_ | exact .arr (by (try dsimp only); omega) | exact .own (by (try dsimp only); omega) | exact .map (by (try dsimp only); omega) | exact fg _ | refine dd ?_ ?_ | exact cg _ _))
       ·refine dg ?_
        first | refine aa rfl (bw rfl rfl rfl) ?_ | refine aa rfl (cv rfl rfl) ?_
        try dsimp only [St.put]
        first | refine af rfl (bf rfl rfl) ?_ | refine af rfl (bv rfl rfl (Enc.len _)) ?_ | refine af rfl (bv rfl rfl rfl) ?_ | refine af rfl (c7 rfl rfl zG trivial (by first | rfl | assumption)) ?_ | refine af rfl (d7 rfl rfl zG trivial (by rfl)) ?_ | refine af rfl (er rfl rfl zG trivial (by simp)) ?_ | refine af rfl (co rfl rfl zG trivial (em (by assumption) rfl)) ?_ | refine af rfl (co rfl rfl zG trivial (by assumption)) ?_ | refine af rfl (ez rfl rfl zG trivial rfl (by assumption) rfl (by decide)) ?_ | refine af rfl (el rfl rfl zG (by rfl)) ?_
        refine aa rfl (cr rfl (by constructor)) ?_
        refine aa rfl (iu rfl rfl rfl) ?_
        refine aa rfl (cr rfl (by constructor)) ?_
        refine eo (fun hs => ?_) (fun hs => ?_)
        ·have z1 : ip p.pages j < x.fr := of_decide_eq_true hs
         first | refine aa rfl (bw rfl rfl rfl) ?_ | refine aa rfl (cv rfl rfl) ?_
         try dsimp only [St.put]
         first | refine af rfl (bf rfl rfl) ?_ | refine af rfl (bv rfl rfl (Enc.len _)) ?_ | refine af rfl (bv rfl rfl rfl) ?_ | refine af rfl (c7 rfl rfl zG trivial (by first | rfl | assumption)) ?_ | refine af rfl (d7 rfl rfl zG trivial (by rfl)) ?_ | refine af rfl (er rfl rfl zG trivial (by simp)) ?_ | refine af rfl (co rfl rfl zG trivial (em (by assumption) rfl)) ?_ | refine af rfl (co rfl rfl zG trivial (by assumption)) ?_ | refine af rfl (ez rfl rfl zG trivial rfl (by assumption) rfl (by decide)) ?_ | refine af rfl (el rfl rfl zG (by rfl)) ?_
         first | refine aa rfl (bw rfl rfl rfl) ?_ | refine aa rfl (cv rfl rfl) ?_
         try dsimp only [St.put]
         first | refine af rfl (bf rfl rfl) ?_ | refine af rfl (bv rfl rfl (Enc.len _)) ?_ | refine af rfl (bv rfl rfl rfl) ?_ | refine af rfl (c7 rfl rfl zG trivial (by first | rfl | assumption)) ?_ | refine af rfl (d7 rfl rfl zG trivial (by rfl)) ?_ | refine af rfl (er rfl rfl zG trivial (by simp)) ?_ | refine af rfl (co rfl rfl zG trivial (em (by assumption) rfl)) ?_ | refine af rfl (co rfl rfl zG trivial (by assumption)) ?_ | refine af rfl (ez rfl rfl zG trivial rfl (by assumption) rfl (by decide)) ?_ | refine af rfl (el rfl rfl zG (by rfl)) ?_
         refine aa rfl (qs rfl rfl rfl) ?_
         first | refine aa rfl (cm rfl rfl (by constructor)) ?_ | refine aa rfl (ce rfl rfl (by constructor)) ?_ | refine aa rfl (gp rfl rfl rfl rfl) ?_ | refine aa rfl (gn rfl rfl rfl rfl) ?_
         refine aa rfl (cr rfl (by constructor)) ?_
         refine eo (fun hs => ?_) (fun hs => ?_)
         ·have z2 : x.fr ≤ x.to := of_decide_eq_true hs
          first | refine aa rfl (bw rfl rfl rfl) ?_ | refine aa rfl (cv rfl rfl) ?_
          try dsimp only [St.put]
          first | refine af rfl (bf rfl rfl) ?_ | refine af rfl (bv rfl rfl (Enc.len _)) ?_ | refine af rfl (bv rfl rfl rfl) ?_ | refine af rfl (c7 rfl rfl zG trivial (by first | rfl | assumption)) ?_ | refine af rfl (d7 rfl rfl zG trivial (by rfl)) ?_ | refine af rfl (er rfl rfl zG trivial (by simp)) ?_ | refine af rfl (co rfl rfl zG trivial (em (by assumption) rfl)) ?_ | refine af rfl (co rfl rfl zG trivial (by assumption)) ?_ | refine af rfl (ez rfl rfl zG trivial rfl (by assumption) rfl (by decide)) ?_ | refine af rfl (el rfl rfl zG (by rfl)) ?_
          refine aa rfl (cr rfl (by constructor)) ?_
          refine aa rfl (cj rfl rfl rfl) ?_
          first | refine aa rfl (cm rfl rfl (by constructor)) ?_ | refine aa rfl (ce rfl rfl (by constructor)) ?_ | refine aa rfl (gp rfl rfl rfl rfl) ?_ | refine aa rfl (gn rfl rfl rfl rfl) ?_
          refine aa rfl (du rfl (by constructor)) ?_
          refine c4 ?_
          dsimp only [St.put]
          refine ⟨_, ?_, ⟨⟨rfl, rfl⟩, zF, zB, zN, zX⟩⟩
          unfold pv
          first
          | (simp [z1]; done)
          | (simp [z1, z2]; done)
          | (simp [z1]; omega)
         ·have z2 : ¬ x.fr ≤ x.to := of_decide_eq_false hs
          refine ec rfl ?_
          refine ec rfl ?_
          refine ec rfl ?_
          refine ec rfl ?_
          first | refine aa rfl (cm rfl rfl (by constructor)) ?_ | refine aa rfl (ce rfl rfl (by constructor)) ?_ | refine aa rfl (gp rfl rfl rfl rfl) ?_ | refine aa rfl (gn rfl rfl rfl rfl) ?_
          refine aa rfl (du rfl (by constructor)) ?_
          refine c4 ?_
          dsimp only [St.put]
          refine ⟨_, ?_, ⟨⟨rfl, rfl⟩, zF, zB, zN, zX⟩⟩
          unfold pv
          first
          | (simp [z1]; done)
          | (simp [z1, z2]; done)
          | (simp [z1]; omega)
        ·have z1 : ¬ ip p.pages j < x.fr := of_decide_eq_false hs
         refine ec rfl ?_
         refine ec rfl ?_
         refine ec rfl ?_
         refine ec rfl ?_
         refine ec rfl ?_
         first | refine aa rfl (cm rfl rfl (by constructor)) ?_ | refine aa rfl (ce rfl rfl (by constructor)) ?_ | refine aa rfl (gp rfl rfl rfl rfl) ?_ | refine aa rfl (gn rfl rfl rfl rfl) ?_
         refine aa rfl (cr rfl (by constructor)) ?_
         refine ec rfl ?_
         refine ec rfl ?_
         refine ec rfl ?_
         refine ec rfl ?_
         first | refine aa rfl (cm rfl rfl (by constructor)) ?_ | refine aa rfl (ce rfl rfl (by constructor)) ?_ | refine aa rfl (gp rfl rfl rfl rfl) ?_ | refine aa rfl (gn rfl rfl rfl rfl) ?_
         refine aa rfl (du rfl (by constructor)) ?_
         refine c4 ?_
         dsimp only [St.put]
         refine ⟨_, ?_, ⟨⟨rfl, rfl⟩, zF, zB, zN, zX⟩⟩
         unfold pv
         first
         | (simp [z1]; done)
         | (simp [z1, z2]; done)
         | (simp [z1]; omega)
       ·rintro d0 hst0
        dsimp only at hst0 ⊢
        subst hst0
        refine dn fun K39 hK39 => ?_
        refine dn fun K40 hK40 => ?_
        refine dg ?_
        try dsimp only [St.put]
        refine af rfl (el (n := 6) (m := n) rfl rfl zG rfl) ?_
        refine aa rfl (cr rfl (by constructor)) ?_
        refine c4 ?_
        dsimp only [St.put]
        refine hK40 _ ?_
        refine az ?_
        refine ck 111 ?_
        refine zQ ?_
        refine c6 ((ai (ai (ai (ai G (nx + 1) (.box (j + j + j) [lst p.text, lst p.firsts, lst p.seconds, lst p.pages, .list (((p.pages.take j).map fun x => (f8 p.text x : Int)).map cells) (.tip (nx + 1 + 1)), .list (((p.pages.take j).map (ei p.text)).map cells) (.tip (nx + 1 + 1 + 1)), .list (((p.pages.take j).map (fe p.text)).map cells) (.tip (nx + 1 + 1 + 1 + 1))])) (nx + 1 + 1) (.tip ((p.pages.take j).map fun x => (f8 p.text x : Int)).length 3 1)) (nx + 1 + 1 + 1) (.tip ((p.pages.take j).map (ei p.text)).length 36 1)) (nx + 1 + 1 + 1 + 1) (.tip ((p.pages.take j).map (fe p.text)).length 36 1))) zX ?_
        dsimp only
        refine c5 (X := Nat) (fun k => k ≤ 2) (fun k => 2 - k) (fun k => [(14, .v (.bool (oz p (ip p.pages j) x k))), (18, .any), (19, .any), (20, .any), (21, .any), (22, .any), (110, .v (.int .i64 (k : Int)))]) (fun k G' => G') 0 rfl ?_ ?_ (fun _ _ h => h) ?_ ?_ ?_
        ·exact Nat.zero_le _
        ·exact zF
        ·rintro k hI
         exact (by (try dsimp only); repeat' (first | exact trivial | refine ⟨?_, ?_⟩ | exact .v | exact .any | refine .elem ?_ | exact cg _ _ | exact gd _ _ | exact fa _ _ | exact gg _ (by (try dsimp only); omega) | exact .box (by (try dsimp only); omega) | exact fp | exact eg | exact iw (j0 _ _) | refine gi ?_ ?_ | exact .arr (by (try dsimp only); omega) | exact .own (by (try dsimp only); omega) | exact .map (by (try dsimp only); omega) | exact fg _ | refine dd ?_ ?_ | exact cg _ _))
        ·exact fun _ _ _ _ h => .inl h
        ·rintro k hS
         dsimp only at hS ⊢
         refine dn fun K41 hK41 => ?_
         refine dg ?_
         refine aa rfl (cj rfl rfl rfl) ?_
         refine c4 ?_
         dsimp only [St.put]
         refine hK41 _ ?_
         refine dn fun K42 hK42 => ?_
         refine ar rfl (fun hc => ?_) (fun hc => ?_)
         ·replace hc := of_decide_eq_true hc
          have hk2 : k < 2 := by omega
          have hslk := hsl (decide (k = 1))
          refine ax ?_
          refine hK42 _ ?_
          refine dn fun K43 hK43 => ?_
          refine az ?_
          refine dn fun K44 hK44 => ?_
          refine dg ?_
          refine aa rfl (ve (k := k) (m := 2) (sz := 3) rfl rfl rfl rfl hk2 (uj hk2)) ?_
          try dsimp only [St.put]
          refine aj rfl (eb rfl ?_)
          try dsimp only [St.put]
          first | refine aj rfl (dj rfl rfl rfl zG rfl rfl (by rfl) ?_) | refine aj rfl (ja rfl rfl rfl zG (by constructor) rfl zO ?_)
          refine c4 ?_
          dsimp only [St.put]
          refine hK44 _ ?_
          refine gt (i := 18) rfl zG zC ?_
          dsimp only
          refine ck 111 ?_
          refine zQ ?_
          refine km (X := Unit) (fun _ => True) (fun _ => [(19, .v (.int .i64 (et (decide (k = 1)) x))), (20, lst (dr (decide (k = 1)) x))]) (fun _ G' => G') rfl ?_ (fun _ _ _ _ h => .inl h) ?_ ?_
          ·rintro _ hI
           exact (by (try dsimp only); repeat' (first | exact trivial | refine ⟨?_, ?_⟩ | exact .v | exact .any | refine .elem ?_ | exact cg _ _ | exact gd _ _ | exact fa _ _ | exact gg _ (by (try dsimp only); omega) | exact .box (by (try dsimp only); omega) | exact fp | exact eg | exact iw (j0 _ _) | refine gi ?_ ?_ | exact .arr (by (try dsimp only); omega) | exact .own (by (try dsimp only); omega) | exact .map (by (try dsimp only); omega) | exact fg _ | refine dd ?_ ?_ | exact cg _ _))
          ·refine fm [(0, none), (1, none), (2, none), (4, none), (5, none), (6, none), (3, none), (7, none), (8, none), (9, none)] (fun i => [7].contains i) (fun i => [3, 7].contains i) (fun i => [0, 4, 8, 9].contains i) [] (by kernel_rfl) (by kernel_rfl) ?_
           first | refine ae rfl rfl rfl rfl (bw rfl rfl rfl) ?_ | refine ae rfl rfl rfl rfl (cv rfl rfl) ?_
           try dsimp only [St.put]
           first | refine ah rfl rfl rfl rfl (bf rfl rfl) ?_ | refine ah rfl rfl rfl rfl (bv rfl rfl (Enc.len _)) ?_ | refine ah rfl rfl rfl rfl (bv rfl rfl rfl) ?_ | refine ah rfl rfl rfl rfl (c7 rfl rfl zG (by simp) (by first | rfl | assumption)) ?_ | refine ah rfl rfl rfl rfl (d7 rfl rfl zG (by simp) (by rfl)) ?_ | refine ah rfl rfl rfl rfl (er rfl rfl zG (by simp) (by simp)) ?_ | refine ah rfl rfl rfl rfl (co rfl rfl zG (by simp) (em (by assumption) rfl)) ?_ | refine ah rfl rfl rfl rfl (co rfl rfl zG (by simp) (by assumption)) ?_ | refine ah rfl rfl rfl rfl (ez rfl rfl zG (by simp) rfl (by assumption) rfl (by decide)) ?_ | refine ah rfl rfl rfl rfl (el rfl rfl zG (by rfl)) ?_
           try dsimp only [St.put]
           first | refine ah rfl rfl rfl rfl (bf rfl rfl) ?_ | refine ah rfl rfl rfl rfl (bv rfl rfl (Enc.len _)) ?_ | refine ah rfl rfl rfl rfl (bv rfl rfl rfl) ?_ | refine ah rfl rfl rfl rfl (c7 rfl rfl zG (by simp) (by first | rfl | assumption)) ?_ | refine ah rfl rfl rfl rfl (d7 rfl rfl zG (by simp) (by rfl)) ?_ | refine ah rfl rfl rfl rfl (er rfl rfl zG (by simp) (by simp)) ?_ | refine ah rfl rfl rfl rfl (co rfl rfl zG (by simp) (em (by assumption) rfl)) ?_ | refine ah rfl rfl rfl rfl (co rfl rfl zG (by simp) (by assumption)) ?_ | refine ah rfl rfl rfl rfl (ez rfl rfl zG (by simp) rfl (by assumption) rfl (by decide)) ?_ | refine ah rfl rfl rfl rfl (el rfl rfl zG (by rfl)) ?_
           first | refine ae rfl rfl rfl rfl (bw rfl rfl rfl) ?_ | refine ae rfl rfl rfl rfl (cv rfl rfl) ?_
           try dsimp only [St.put]
           first | refine ah rfl rfl rfl rfl (bf rfl rfl) ?_ | refine ah rfl rfl rfl rfl (bv rfl rfl (Enc.len _)) ?_ | refine ah rfl rfl rfl rfl (bv rfl rfl rfl) ?_ | refine ah rfl rfl rfl rfl (c7 rfl rfl zG (by simp) (by first | rfl | assumption)) ?_ | refine ah rfl rfl rfl rfl (d7 rfl rfl zG (by simp) (by rfl)) ?_ | refine ah rfl rfl rfl rfl (er rfl rfl zG (by simp) (by simp)) ?_ | refine ah rfl rfl rfl rfl (co rfl rfl zG (by simp) (em (by assumption) rfl)) ?_ | refine ah rfl rfl rfl rfl (co rfl rfl zG (by simp) (by assumption)) ?_ | refine ah rfl rfl rfl rfl (ez rfl rfl zG (by simp) rfl (by assumption) rfl (by decide)) ?_ | refine ah rfl rfl rfl rfl (el rfl rfl zG (by rfl)) ?_
           try dsimp only [St.put]
           first | refine ah rfl rfl rfl rfl (bf rfl rfl) ?_ | refine ah rfl rfl rfl rfl (bv rfl rfl (Enc.len _)) ?_ | refine ah rfl rfl rfl rfl (bv rfl rfl rfl) ?_ | refine ah rfl rfl rfl rfl (c7 rfl rfl zG (by simp) (by first | rfl | assumption)) ?_ | refine ah rfl rfl rfl rfl (d7 rfl rfl zG (by simp) (by rfl)) ?_ | refine ah rfl rfl rfl rfl (er rfl rfl zG (by simp) (by simp)) ?_ | refine ah rfl rfl rfl rfl (co rfl rfl zG (by simp) (em (by assumption) rfl)) ?_ | refine ah rfl rfl rfl rfl (co rfl rfl zG (by simp) (by assumption)) ?_ | refine ah rfl rfl rfl rfl (ez rfl rfl zG (by simp) rfl (by assumption) rfl (by decide)) ?_ | refine ah rfl rfl rfl rfl (el rfl rfl zG (by rfl)) ?_
           refine il ?_
           try dsimp only [St.put]
           refine ib rfl rfl rfl (bq rfl rfl rfl (xk (decide (k = 1)) x) ⟨zD, ?_⟩)
           try dsimp only [St.put]
           refine fy rfl rfl rfl rfl (bq rfl rfl rfl (ua1 (decide (k = 1)) x) ?_)
           refine ep rfl rfl rfl rfl (du rfl (by constructor)) ?_
           refine ep rfl rfl rfl rfl (du rfl (by constructor)) ?_
           refine ij ?_
           dsimp only [St.put]
           exact ⟨(), trivial, ⟨⟨rfl, rfl⟩, zF, zB, zN, zX⟩⟩
          ·rintro _ h31
           dsimp only at h31 ⊢
           refine ck 111 ?_
           refine zQ ?_
           refine km (X := Bool) (fun d => d = (oz p (ip p.pages j) x k && (inB (et (decide (k = 1)) x) (-1) (((eh p (decide (k = 1))).length : Int) - 1) && (decide (0 ≤ et (decide (k = 1)) x) || decide (dr (decide (k = 1)) x = []))))) (fun d => [(14, .v (.bool d))]) (fun d G' => G') rfl ?_ (fun _ _ _ _ h => .inl h) ?_ ?_
           ·rintro d hI
            exact (by (try dsimp only); repeat' (first | exact trivial | refine ⟨?_, ?_⟩ | exact .v | exact .any | refine .elem ?_ | exact cg _ _ | exact gd _ _ | exact fa _ _ | exact gg _ (by (try dsimp only); omega) | exact .box (by (try dsimp only); omega) | exact fp | exact eg | exact iw (j0 _ _) | refine gi ?_ ?_ | exact .arr (by (try dsimp only); omega) | exact .own (by (try dsimp only); omega) | exact .map (by (try dsimp only); omega) | exact fg _ | refine dd ?_ ?_ | exact cg _ _))
           ·refine dg ?_
            refine aa rfl (cr rfl (by constructor)) ?_
            refine aa rfl (cr rfl (by constructor)) ?_
            refine eo (fun hs => ?_) (fun hs => ?_)
            ·have s0 : oz p (ip p.pages j) x k = true := hs
             first | refine aa rfl (bw rfl rfl rfl) ?_ | refine aa rfl (cv rfl rfl) ?_
             try dsimp only [St.put]
             first | refine af rfl (bf rfl rfl) ?_ | refine af rfl (bv rfl rfl (Enc.len _)) ?_ | refine af rfl (bv rfl rfl rfl) ?_ | refine af rfl (c7 rfl rfl zG trivial (by first | rfl | assumption)) ?_ | refine af rfl (d7 rfl rfl zG trivial (by rfl)) ?_ | refine af rfl (er rfl rfl zG trivial (by simp)) ?_ | refine af rfl (co rfl rfl zG trivial (em (by assumption) rfl)) ?_ | refine af rfl (co rfl rfl zG trivial (by assumption)) ?_ | refine af rfl (ez rfl rfl zG trivial rfl (by assumption) rfl (by decide)) ?_ | refine af rfl (el rfl rfl zG (by rfl)) ?_
             try dsimp only [St.put]
             first | refine af rfl (bf rfl rfl) ?_ | refine af rfl (bv rfl rfl (Enc.len _)) ?_ | refine af rfl (bv rfl rfl rfl) ?_ | refine af rfl (c7 rfl rfl zG trivial (by first | rfl | assumption)) ?_ | refine af rfl (d7 rfl rfl zG trivial (by rfl)) ?_ | refine af rfl (er rfl rfl zG trivial (by simp)) ?_ | refine af rfl (co rfl rfl zG trivial (em (by assumption) rfl)) ?_ | refine af rfl (co rfl rfl zG trivial (by assumption)) ?_ | refine af rfl (ez rfl rfl zG trivial rfl (by assumption) rfl (by decide)) ?_ | refine af rfl (el rfl rfl zG (by rfl)) ?_
             try dsimp only [St.put]
             refine aj rfl (bq rfl rfl rfl (pr (decide (k = 1)) p) ?_)
             first | refine aa rfl (ba rfl rfl (List.length_map _)) ?_ | refine aa rfl (ba rfl rfl rfl) ?_ | refine aa rfl (l9 rfl rfl) ?_ | refine aa rfl (pa rfl rfl) ?_ | refine aa rfl (oh rfl rfl) ?_ | refine aa rfl (o9 rfl rfl (by omega)) ?_
             first | refine aa rfl (io rfl rfl rfl (by omega)) ?_ | refine aa rfl (ucc rfl rfl rfl) ?_
             refine aa rfl (cr rfl (by constructor)) ?_
             try dsimp only [St.put]
             refine aj rfl (fh rfl rfl rfl (by decide) (by decide) zR (by decide) ?_)
             try dsimp only [St.put]
             refine aj rfl (bq rfl rfl rfl (o8 _ _ [_]) ?_)
             first | refine aa rfl (cm rfl rfl (by constructor)) ?_ | refine aa rfl (ce rfl rfl (by constructor)) ?_ | refine aa rfl (gp rfl rfl rfl rfl) ?_ | refine aa rfl (gn rfl rfl rfl rfl) ?_
             refine aa rfl (cr rfl (by constructor)) ?_
             refine eo (fun hs => ?_) (fun hs => ?_)
             ·have s1 : inB (et (decide (k = 1)) x) (-1) (((eh p (decide (k = 1))).length : Int) - 1) = true := by rw [ia] at hs; exact hs
              refine aa rfl (cr rfl (by constructor)) ?_
              refine aa rfl (lu rfl rfl rfl) ?_
              refine aa rfl (cr rfl (by constructor)) ?_
              refine eo (fun hs => ?_) (fun hs => ?_)
              ·have s2 : 0 ≤ et (decide (k = 1)) x := of_decide_eq_true hs
               refine ec rfl ?_
               refine ec rfl ?_
               refine ec rfl ?_
               first | refine aa rfl (cm rfl rfl (by constructor)) ?_ | refine aa rfl (ce rfl rfl (by constructor)) ?_ | refine aa rfl (gp rfl rfl rfl rfl) ?_ | refine aa rfl (gn rfl rfl rfl rfl) ?_
               first | refine aa rfl (cm rfl rfl (by constructor)) ?_ | refine aa rfl (ce rfl rfl (by constructor)) ?_ | refine aa rfl (gp rfl rfl rfl rfl) ?_ | refine aa rfl (gn rfl rfl rfl rfl) ?_
               refine aa rfl (du rfl (by constructor)) ?_
               refine c4 ?_
               dsimp only [St.put]
               refine ⟨_, ?_, ⟨⟨rfl, rfl⟩, zF, zB, zN, zX⟩⟩
               first
               | (rw [s0]; simp; done)
               | (rw [s0, s1]; simp; done)
               | (rw [s0, s1, decide_eq_true s2]; simp; done)
               | (rw [s0, s1, decide_eq_false s2, Bool.true_and, Bool.true_and, Bool.false_or, decide_eq_decide]; exact nil_len.symm)
              ·have s2 : ¬ 0 ≤ et (decide (k = 1)) x := of_decide_eq_false hs
               refine aa rfl (cr rfl (by constructor)) ?_
               first | refine aa rfl (ba rfl rfl (List.length_map _)) ?_ | refine aa rfl (ba rfl rfl rfl) ?_ | refine aa rfl (l9 rfl rfl) ?_ | refine aa rfl (pa rfl rfl) ?_ | refine aa rfl (oh rfl rfl) ?_ | refine aa rfl (o9 rfl rfl (by omega)) ?_
               refine aa rfl (lv rfl rfl rfl) ?_
               first | refine aa rfl (cm rfl rfl (by constructor)) ?_ | refine aa rfl (ce rfl rfl (by constructor)) ?_ | refine aa rfl (gp rfl rfl rfl rfl) ?_ | refine aa rfl (gn rfl rfl rfl rfl) ?_
               first | refine aa rfl (cm rfl rfl (by constructor)) ?_ | refine aa rfl (ce rfl rfl (by constructor)) ?_ | refine aa rfl (gp rfl rfl rfl rfl) ?_ | refine aa rfl (gn rfl rfl rfl rfl) ?_
               refine aa rfl (du rfl (by constructor)) ?_
               refine c4 ?_
               dsimp only [St.put]
               refine ⟨_, ?_, ⟨⟨rfl, rfl⟩, zF, zB, zN, zX⟩⟩
               first
               | (rw [s0]; simp; done)
               | (rw [s0, s1]; simp; done)
               | (rw [s0, s1, decide_eq_true s2]; simp; done)
               | (rw [s0, s1, decide_eq_false s2, Bool.true_and, Bool.true_and, Bool.false_or, decide_eq_decide]; exact nil_len.symm)
             ·have s1 : inB (et (decide (k = 1)) x) (-1) (((eh p (decide (k = 1))).length : Int) - 1) = false := by rw [ia] at hs; exact hs
              refine ec rfl ?_
              refine ec rfl ?_
              refine ec rfl ?_
              refine ec rfl ?_
              refine ec rfl ?_
              refine ec rfl ?_
              refine ec rfl ?_
              first | refine aa rfl (cm rfl rfl (by constructor)) ?_ | refine aa rfl (ce rfl rfl (by constructor)) ?_ | refine aa rfl (gp rfl rfl rfl rfl) ?_ | refine aa rfl (gn rfl rfl rfl rfl) ?_
              refine aa rfl (du rfl (by constructor)) ?_
              refine c4 ?_
              dsimp only [St.put]
              refine ⟨_, ?_, ⟨⟨rfl, rfl⟩, zF, zB, zN, zX⟩⟩
              first
              | (rw [s0]; simp; done)
              | (rw [s0, s1]; simp; done)
              | (rw [s0, s1, decide_eq_true s2]; simp; done)
              | (rw [s0, s1, decide_eq_false s2, Bool.true_and, Bool.true_and, Bool.false_or, decide_eq_decide]; exact nil_len.symm)
            ·have s0 : oz p (ip p.pages j) x k = false := hs
             refine ec rfl ?_
             refine ec rfl ?_
             refine ec rfl ?_
             refine ec rfl ?_
             refine ec rfl ?_
             refine ec rfl ?_
             refine ec rfl ?_
             refine ec rfl ?_
             refine ec rfl ?_
             first | refine aa rfl (cm rfl rfl (by constructor)) ?_ | refine aa rfl (ce rfl rfl (by constructor)) ?_ | refine aa rfl (gp rfl rfl rfl rfl) ?_ | refine aa rfl (gn rfl rfl rfl rfl) ?_
             refine aa rfl (cr rfl (by constructor)) ?_
             refine ec rfl ?_
             refine ec rfl ?_
             refine ec rfl ?_
             refine ec rfl ?_
             refine ec rfl ?_
             refine ec rfl ?_
             refine ec rfl ?_
             first | refine aa rfl (cm rfl rfl (by constructor)) ?_ | refine aa rfl (ce rfl rfl (by constructor)) ?_ | refine aa rfl (gp rfl rfl rfl rfl) ?_ | refine aa rfl (gn rfl rfl rfl rfl) ?_
             refine aa rfl (du rfl (by constructor)) ?_
             refine c4 ?_
             dsimp only [St.put]
             refine ⟨_, ?_, ⟨⟨rfl, rfl⟩, zF, zB, zN, zX⟩⟩
             first
             | (rw [s0]; simp; done)
             | (rw [s0, s1]; simp; done)
             | (rw [s0, s1, decide_eq_true s2]; simp; done)
             | (rw [s0, s1, decide_eq_false s2, Bool.true_and, Bool.true_and, Bool.false_or, decide_eq_decide]; exact nil_len.symm)
           ·rintro d hd
            dsimp only at hd ⊢
            refine dn fun K47 hK47 => ?_
            refine kd 20 (fun hfit => ?_)
            have hfll := (fit_lst.1 hfit).1
            rw [show (C.v (.bool d)) = .v (.bool (d && d9 p.text x (dr (decide (k = 1)) x) 0)) by simp [d9]]
            refine dg ?_
            refine aa rfl (cr rfl (by constructor)) ?_
            first | refine aa rfl (ba rfl rfl (List.length_map _)) ?_ | refine aa rfl (ba rfl rfl rfl) ?_ | refine aa rfl (l9 rfl rfl) ?_ | refine aa rfl (pa rfl rfl) ?_ | refine aa rfl (oh rfl rfl) ?_ | refine aa rfl (o9 rfl rfl (by omega)) ?_
            refine aa rfl (cr rfl (by constructor)) ?_
            refine c4 ?_
            dsimp only [St.put]
            refine hK47 _ ?_
            refine az ?_
            refine ck 145 ?_
            refine zQ ?_
            refine c6 ((ai (ai (ai (ai G (nx + 1) (.box (j + j + j) [lst p.text, lst p.firsts, lst p.seconds, lst p.pages, .list (((p.pages.take j).map fun x => (f8 p.text x : Int)).map cells) (.tip (nx + 1 + 1)), .list (((p.pages.take j).map (ei p.text)).map cells) (.tip (nx + 1 + 1 + 1)), .list (((p.pages.take j).map (fe p.text)).map cells) (.tip (nx + 1 + 1 + 1 + 1))])) (nx + 1 + 1) (.tip ((p.pages.take j).map fun x => (f8 p.text x : Int)).length 3 1)) (nx + 1 + 1 + 1) (.tip ((p.pages.take j).map (ei p.text)).length 36 1)) (nx + 1 + 1 + 1 + 1) (.tip ((p.pages.take j).map (fe p.text)).length 36 1))) zX ?_
            dsimp only
            refine c5 (X := Nat) (fun i => i ≤ (dr (decide (k = 1)) x).length) (fun i => (dr (decide (k = 1)) x).length - i) (fun i => [(14, .v (.bool (d && d9 p.text x (dr (decide (k = 1)) x) i))), (21, .any), (22, .any), (144, .v (.int .i64 (i : Int)))]) (fun i G' => G') 0 rfl ?_ ?_ (fun _ _ h => h) ?_ ?_ ?_
            ·exact Nat.zero_le _
            ·exact zF
            ·rintro i hI
             exact (by (try dsimp only); repeat' (first | exact trivial | refine ⟨?_, ?_⟩ | exact .v | exact .any | refine .elem ?_ | exact cg _ _ | exact gd _ _ | exact fa _ _ | exact gg _ (by (try dsimp only); omega) | exact .box (by (try dsimp only); omega) | exact fp | exact eg | exact iw (j0 _ _) | refine gi ?_ ?_ | exact .arr (by (try dsimp only); omega) | exact .own (by (try dsimp only); omega) | exact .map (by (try dsimp only); omega) | exact fg _ | refine dd ?_ ?_ | exact cg _ _))
            ·exact fun _ _ _ _ h => .inl h
            ·rintro i hT
             dsimp only at hT ⊢
             refine dn fun K48 hK48 => ?_
             refine dg ?_
             refine aa rfl (cj rfl rfl rfl) ?_
             refine c4 ?_
             dsimp only [St.put]
             refine hK48 _ ?_
             refine dn fun K49 hK49 => ?_
             refine ar rfl (fun hc => ?_) (fun hc => ?_)
             ·replace hc := of_decide_eq_true hc
              obtain ⟨q, hq⟩ : ∃ q, (dr (decide (k = 1)) x)[i]? = some q := da (by omega)
              refine ax ?_
              refine hK49 _ ?_
              refine dn fun K50 hK50 => ?_
              refine az ?_
              refine dn fun K51 hK51 => ?_
              refine dg ?_
              refine aa rfl (cr rfl (by constructor)) ?_
              try dsimp only [St.put]
              first | refine aa rfl (bn rfl rfl rfl rfl (bp (by assumption)) (Enc.len _)) ?_ | refine aa rfl (bn rfl rfl rfl rfl (by assumption) rfl) ?_ | refine aa rfl (vf rfl rfl rfl (by first | exact vv _ | exact rfl) (by omega)) ?_ | refine aa rfl (bn rfl rfl rfl (by omega) (bp (by assumption)) (Enc.len _)) ?_
              try dsimp only [St.put]
              first | refine af rfl (bf rfl rfl) ?_ | refine af rfl (bv rfl rfl (Enc.len _)) ?_ | refine af rfl (bv rfl rfl rfl) ?_ | refine af rfl (c7 rfl rfl zG trivial (by first | rfl | assumption)) ?_ | refine af rfl (d7 rfl rfl zG trivial (by rfl)) ?_ | refine af rfl (er rfl rfl zG trivial (by simp)) ?_ | refine af rfl (co rfl rfl zG trivial (em (by assumption) rfl)) ?_ | refine af rfl (co rfl rfl zG trivial (by assumption)) ?_ | refine af rfl (ez rfl rfl zG trivial rfl (by assumption) rfl (by decide)) ?_ | refine af rfl (el rfl rfl zG (by rfl)) ?_
              try dsimp only [St.put]
              refine aj rfl (eb rfl ?_)
              refine aa rfl (du rfl (by constructor)) ?_
              try dsimp only [St.put]
              first | refine aj rfl (dj rfl rfl rfl zG rfl rfl (by rfl) ?_) | refine aj rfl (ja rfl rfl rfl zG (by constructor) rfl zO ?_)
              refine c4 ?_
              dsimp only [St.put]
              refine hK51 _ ?_
              refine gt (i := 22) rfl zG zC ?_
              dsimp only
              refine pn [(0, none), (1, none), (2, none), (3, none), (4, none)] (fun _ => false) (fun i => [0, 1, 2].contains i) 33 (rl [5, 33]) (by kernel_rfl) (by kernel_rfl) ?_
              refine ae rfl rfl rfl rfl (cr rfl (by constructor)) ?_
              refine ae rfl rfl rfl rfl (cr rfl (by constructor)) ?_
              refine j8 (fun hs => ?_) (fun hs => ?_)
              ·have w0 : (d && d9 p.text x (dr (decide (k = 1)) x) i) = true := hs
               first | refine ae rfl rfl rfl rfl (bw rfl rfl rfl) ?_ | refine ae rfl rfl rfl rfl (cv rfl rfl) ?_
               try dsimp only [St.put]
               refine ah rfl rfl rfl rfl (c := fj p.text) (jc (cs := cells p) rfl rfl (show 1 ≤ 4 by decide)) ?_
               try dsimp only [St.put]
               first | refine ah rfl rfl rfl rfl (bf rfl rfl) ?_ | refine ah rfl rfl rfl rfl (bv rfl rfl (Enc.len _)) ?_ | refine ah rfl rfl rfl rfl (bv rfl rfl rfl) ?_ | refine ah rfl rfl rfl rfl (c7 rfl rfl zG (by simp) (by first | rfl | assumption)) ?_ | refine ah rfl rfl rfl rfl (d7 rfl rfl zG (by simp) (by rfl)) ?_ | refine ah rfl rfl rfl rfl (er rfl rfl zG (by simp) (by simp)) ?_ | refine ah rfl rfl rfl rfl (co rfl rfl zG (by simp) (em (by assumption) rfl)) ?_ | refine ah rfl rfl rfl rfl (co rfl rfl zG (by simp) (by assumption)) ?_ | refine ah rfl rfl rfl rfl (ez rfl rfl zG (by simp) rfl (by assumption) rfl (by decide)) ?_ | refine ah rfl rfl rfl rfl (el rfl rfl zG (by rfl)) ?_
               refine cc ?_
               refine ca [5] (by kernel_rfl) (by simp) ?_
               refine br ?_ ?_
               ·try dsimp only [St.put]
                refine cn rfl rfl rfl (bq rfl rfl rfl (uil p.text q ht) ?_)
                refine dw [(6, none), (7, none), (8, none), (9, none), (10, none), (11, none), (12, none), (13, none), (14, none), (15, none), (16, none), (17, none), (18, none), (19, none)] (fun i => [6, 7, 8, 10, 12, 13, 15, 17, 19].contains i) 18 (rl [20, 18]) (by kernel_rfl) ?_
                first | refine ae rfl rfl rfl rfl (cm rfl rfl (by constructor)) ?_ | refine ae rfl rfl rfl rfl (ce rfl rfl (by constructor)) ?_ | refine ae rfl rfl rfl rfl (gp rfl rfl rfl rfl) ?_ | refine ae rfl rfl rfl rfl (gn rfl rfl rfl rfl) ?_
                refine ae rfl rfl rfl rfl (cr rfl (by constructor)) ?_
                refine j8 (fun hs => ?_) (fun hs => ?_)
                ·have w1 : f9 p.text q = true := hs
                 obtain ⟨kq, nq, wq, cq, lq, hqe, hq1, hq2, hq3⟩ := ubo w1
                 have hkl := (List.getElem?_eq_some_iff.1 hq1).1
                 have hnl := (List.getElem?_eq_some_iff.1 hq2).1
                 have hcl := (hl3 cq (fq hq1)).2.1
                 have hst := uan (t := p.text) (k := p.text.length) (i := kq) hkl
                 have hsb := ug ht kq (by omega)
                 have hqc : q.ch = (kq : Int) := by rw [hqe]
                 have hql : q.ln = (nq : Int) := by rw [hqe]
                 first | refine ae rfl rfl rfl rfl (bw rfl rfl rfl) ?_ | refine ae rfl rfl rfl rfl (cv rfl rfl) ?_
                 try dsimp only [St.put]
                 first | refine ah rfl rfl rfl rfl (bf rfl rfl) ?_ | refine ah rfl rfl rfl rfl (bv rfl rfl (Enc.len _)) ?_ | refine ah rfl rfl rfl rfl (bv rfl rfl rfl) ?_ | refine ah rfl rfl rfl rfl (c7 rfl rfl zG (by simp) (by first | rfl | assumption)) ?_ | refine ah rfl rfl rfl rfl (d7 rfl rfl zG (by simp) (by rfl)) ?_ | refine ah rfl rfl rfl rfl (er rfl rfl zG (by simp) (by simp)) ?_ | refine ah rfl rfl rfl rfl (co rfl rfl zG (by simp) (em (by assumption) rfl)) ?_ | refine ah rfl rfl rfl rfl (co rfl rfl zG (by simp) (by assumption)) ?_ | refine ah rfl rfl rfl rfl (ez rfl rfl zG (by simp) rfl (by assumption) rfl (by decide)) ?_ | refine ah rfl rfl rfl rfl (el rfl rfl zG (by rfl)) ?_
                 first | refine ae rfl rfl rfl rfl (bw rfl rfl rfl) ?_ | refine ae rfl rfl rfl rfl (cv rfl rfl) ?_
                 try dsimp only [St.put]
                 first | refine ah rfl rfl rfl rfl (bf rfl rfl) ?_ | refine ah rfl rfl rfl rfl (bv rfl rfl (Enc.len _)) ?_ | refine ah rfl rfl rfl rfl (bv rfl rfl rfl) ?_ | refine ah rfl rfl rfl rfl (c7 rfl rfl zG (by simp) (by first | rfl | assumption)) ?_ | refine ah rfl rfl rfl rfl (d7 rfl rfl zG (by simp) (by rfl)) ?_ | refine ah rfl rfl rfl rfl (er rfl rfl zG (by simp) (by simp)) ?_ | refine ah rfl rfl rfl rfl (co rfl rfl zG (by simp) (em (by assumption) rfl)) ?_ | refine ah rfl rfl rfl rfl (co rfl rfl zG (by simp) (by assumption)) ?_ | refine ah rfl rfl rfl rfl (ez rfl rfl zG (by simp) rfl (by assumption) rfl (by decide)) ?_ | refine ah rfl rfl rfl rfl (el rfl rfl zG (by rfl)) ?_
                 refine ae rfl rfl rfl rfl (cr rfl (by constructor)) ?_
                 first | refine ae rfl rfl rfl rfl (bw rfl rfl rfl) ?_ | refine ae rfl rfl rfl rfl (cv rfl rfl) ?_
                 try dsimp only [St.put]
                 first | refine ah rfl rfl rfl rfl (bf rfl rfl) ?_ | refine ah rfl rfl rfl rfl (bv rfl rfl (Enc.len _)) ?_ | refine ah rfl rfl rfl rfl (bv rfl rfl rfl) ?_ | refine ah rfl rfl rfl rfl (c7 rfl rfl zG (by simp) (by first | rfl | assumption)) ?_ | refine ah rfl rfl rfl rfl (d7 rfl rfl zG (by simp) (by rfl)) ?_ | refine ah rfl rfl rfl rfl (er rfl rfl zG (by simp) (by simp)) ?_ | refine ah rfl rfl rfl rfl (co rfl rfl zG (by simp) (em (by assumption) rfl)) ?_ | refine ah rfl rfl rfl rfl (co rfl rfl zG (by simp) (by assumption)) ?_ | refine ah rfl rfl rfl rfl (ez rfl rfl zG (by simp) rfl (by assumption) rfl (by decide)) ?_ | refine ah rfl rfl rfl rfl (el rfl rfl zG (by rfl)) ?_
                 try dsimp only [St.put]
                 first | refine ae rfl rfl rfl rfl (bn rfl rfl rfl rfl (bp (by assumption)) (Enc.len _)) ?_ | refine ae rfl rfl rfl rfl (bn rfl rfl rfl rfl (by assumption) rfl) ?_ | refine ae rfl rfl rfl rfl (vf rfl rfl rfl (by first | exact vv _ | exact rfl) (by omega)) ?_ | refine ae rfl rfl rfl rfl (bn rfl rfl rfl (by omega) (bp (by assumption)) (Enc.len _)) ?_
                 try dsimp only [St.put]
                 first | refine ah rfl rfl rfl rfl (bf rfl rfl) ?_ | refine ah rfl rfl rfl rfl (bv rfl rfl (Enc.len _)) ?_ | refine ah rfl rfl rfl rfl (bv rfl rfl rfl) ?_ | refine ah rfl rfl rfl rfl (c7 rfl rfl zG (by simp) (by first | rfl | assumption)) ?_ | refine ah rfl rfl rfl rfl (d7 rfl rfl zG (by simp) (by rfl)) ?_ | refine ah rfl rfl rfl rfl (er rfl rfl zG (by simp) (by simp)) ?_ | refine ah rfl rfl rfl rfl (co rfl rfl zG (by simp) (em (by assumption) rfl)) ?_ | refine ah rfl rfl rfl rfl (co rfl rfl zG (by simp) (by assumption)) ?_ | refine ah rfl rfl rfl rfl (ez rfl rfl zG (by simp) rfl (by assumption) rfl (by decide)) ?_ | refine ah rfl rfl rfl rfl (el rfl rfl zG (by rfl)) ?_
                 first | refine ae rfl rfl rfl rfl (bw rfl rfl rfl) ?_ | refine ae rfl rfl rfl rfl (cv rfl rfl) ?_
                 try dsimp only [St.put]
                 first | refine ah rfl rfl rfl rfl (bf rfl rfl) ?_ | refine ah rfl rfl rfl rfl (bv rfl rfl (Enc.len _)) ?_ | refine ah rfl rfl rfl rfl (bv rfl rfl rfl) ?_ | refine ah rfl rfl rfl rfl (c7 rfl rfl zG (by simp) (by first | rfl | assumption)) ?_ | refine ah rfl rfl rfl rfl (d7 rfl rfl zG (by simp) (by rfl)) ?_ | refine ah rfl rfl rfl rfl (er rfl rfl zG (by simp) (by simp)) ?_ | refine ah rfl rfl rfl rfl (co rfl rfl zG (by simp) (em (by assumption) rfl)) ?_ | refine ah rfl rfl rfl rfl (co rfl rfl zG (by simp) (by assumption)) ?_ | refine ah rfl rfl rfl rfl (ez rfl rfl zG (by simp) rfl (by assumption) rfl (by decide)) ?_ | refine ah rfl rfl rfl rfl (el rfl rfl zG (by rfl)) ?_
                 first | refine ae rfl rfl rfl rfl (bu rfl rfl rfl (by omega)) ?_ | refine ae rfl rfl rfl rfl (kf rfl rfl rfl) ?_
                 refine cc ?_
                 refine ca [20] (by kernel_rfl) (by simp) ?_
                 refine br ?_ ?_
                 ·try dsimp only [St.put]
                  refine cn rfl rfl rfl (fh rfl rfl rfl (by decide) (by decide) zR (by decide) ?_)
                  refine ca [21] (by kernel_rfl) (by simp) ?_
                  refine br ?_ ?_
                  ·try dsimp only [St.put]
                   refine cn rfl rfl rfl (bq rfl rfl rfl (o8 _ _ [_]) ?_)
                   refine dw [(22, none), (23, none), (24, none), (25, none), (26, none), (27, none), (28, none), (29, none), (30, none), (31, none), (32, none)] (fun i => [22, 23, 24, 25, 26, 27, 28, 29, 30].contains i) 5 (rl [33, 5]) (by kernel_rfl) ?_
                   first | refine ae rfl rfl rfl rfl (cm rfl rfl (by constructor)) ?_ | refine ae rfl rfl rfl rfl (ce rfl rfl (by constructor)) ?_ | refine ae rfl rfl rfl rfl (gp rfl rfl rfl rfl) ?_ | refine ae rfl rfl rfl rfl (gn rfl rfl rfl rfl) ?_
                   refine ae rfl rfl rfl rfl (cr rfl (by constructor)) ?_
                   refine j8 (fun hs => ?_) (fun hs => ?_)
                   ·have w2 : fw p.text x q = true := by
                     rw [ia] at hs
                     unfold fw qb
                     rw [hqc, Int.toNat_natCast, Int.add_comm]; exact hs
                    refine ae rfl rfl rfl rfl (cr rfl (by constructor)) ?_
                    refine ae rfl rfl rfl rfl (lv rfl rfl rfl) ?_
                    refine ae rfl rfl rfl rfl (cr rfl (by constructor)) ?_
                    refine j8 (fun hs => ?_) (fun hs => ?_)
                    ·have w3 : i = 0 := by have := of_decide_eq_true hs; omega
                     refine am rfl rfl rfl ?_
                     refine am rfl rfl rfl ?_
                     refine am rfl rfl rfl ?_
                     refine am rfl rfl rfl ?_
                     refine am rfl rfl rfl ?_
                     refine am rfl rfl rfl ?_
                     refine cc ?_
                     refine ca [33] (by kernel_rfl) (by simp) ?_
                     refine br ?_ ?_
                     ·refine gk rfl rfl rfl ?_
                      refine dw [(34, none), (35, none), (36, none), (37, none)] (fun i => [34, 35, 36, 37].contains i) 0 (rl [38]) (by kernel_rfl) ?_
                      refine am rfl rfl rfl ?_
                      first | refine ae rfl rfl rfl rfl (cm rfl rfl (by constructor)) ?_ | refine ae rfl rfl rfl rfl (ce rfl rfl (by constructor)) ?_ | refine ae rfl rfl rfl rfl (gp rfl rfl rfl rfl) ?_ | refine ae rfl rfl rfl rfl (gn rfl rfl rfl rfl) ?_
                      first | refine ae rfl rfl rfl rfl (cm rfl rfl (by constructor)) ?_ | refine ae rfl rfl rfl rfl (ce rfl rfl (by constructor)) ?_ | refine ae rfl rfl rfl rfl (gp rfl rfl rfl rfl) ?_ | refine ae rfl rfl rfl rfl (gn rfl rfl rfl rfl) ?_
                      refine ae rfl rfl rfl rfl (du rfl (by constructor)) ?_
                      refine cc ?_
                      dsimp only [St.put]
                      refine e8 (by kernel_rfl) ?_
                      refine hK50 _ ?_
                      refine dg ?_
                      first | refine aa rfl (bu rfl rfl rfl (by omega)) ?_ | refine aa rfl (kf rfl rfl rfl) ?_
                      refine aa rfl (cr rfl (by constructor)) ?_
                      refine c4 ?_
                      dsimp only [St.put]
                      refine ⟨i + 1, by omega, by omega, ?_⟩
                      try dsimp only
                      first
                      | (rw [show (d && d9 p.text x (dr (decide (k = 1)) x) (i + 1)) = false by rw [g8, ← Bool.and_assoc, show (d && d9 p.text x (dr (decide (k = 1)) x) i) = false from w0, Bool.false_and]]
                         exact ⟨⟨rfl, rfl⟩, zF, zB, zN, zX⟩)
                      | (rw [show (d && d9 p.text x (dr (decide (k = 1)) x) (i + 1)) = false by rw [g8, jg hq, show f9 p.text q = false from w1]; simp]
                         exact ⟨⟨rfl, rfl⟩, zF, zB, zN, zX⟩)
                      | (rw [show (d && d9 p.text x (dr (decide (k = 1)) x) (i + 1)) = false by rw [g8, jg hq, show fw p.text x q = false from w2]; simp]
                         exact ⟨⟨rfl, rfl⟩, zF, zB, zN, zX⟩)
                      | (rw [show (d && d9 p.text x (dr (decide (k = 1)) x) (i + 1)) = true by rw [g8, ← Bool.and_assoc, show (d && d9 p.text x (dr (decide (k = 1)) x) i) = true from w0, jg hq, w1, w2, decide_eq_true (show i = 0 from w3)]; rfl]
                         exact ⟨⟨rfl, rfl⟩, zF, zB, zN, zX⟩)
                      | (rw [show (d && d9 p.text x (dr (decide (k = 1)) x) (i + 1)) = decide (l8 a q < 0) by rw [g8, ← Bool.and_assoc, show (d && d9 p.text x (dr (decide (k = 1)) x) i) = true from w0, jg hq, w1, w2, decide_eq_false (show ¬ i = 0 from w3), ha]; rfl]
                         exact ⟨⟨rfl, rfl⟩, zF, zB, zN, zX⟩)
                     exact cb
                    ·have w3 : ¬ i = 0 := by have := of_decide_eq_false hs; omega
                     obtain ⟨a, ha⟩ : ∃ a, (dr (decide (k = 1)) x)[i - 1]? = some a := da (by omega)
                     refine ae rfl rfl rfl rfl (cr rfl (by constructor)) ?_
                     refine ae rfl rfl rfl rfl (cr rfl (by constructor)) ?_
                     first | refine ae rfl rfl rfl rfl (io rfl rfl rfl (by omega)) ?_ | refine ae rfl rfl rfl rfl (ucc rfl rfl rfl) ?_
                     try dsimp only [St.put]
                     refine ae rfl rfl rfl rfl (bn (k := i - 1) rfl rfl rfl (by omega) (bp ha) (Enc.len _)) ?_
                     try dsimp only [St.put]
                     first | refine ah rfl rfl rfl rfl (bf rfl rfl) ?_ | refine ah rfl rfl rfl rfl (bv rfl rfl (Enc.len _)) ?_ | refine ah rfl rfl rfl rfl (bv rfl rfl rfl) ?_ | refine ah rfl rfl rfl rfl (c7 rfl rfl zG (by simp) (by first | rfl | assumption)) ?_ | refine ah rfl rfl rfl rfl (d7 rfl rfl zG (by simp) (by rfl)) ?_ | refine ah rfl rfl rfl rfl (er rfl rfl zG (by simp) (by simp)) ?_ | refine ah rfl rfl rfl rfl (co rfl rfl zG (by simp) (em (by assumption) rfl)) ?_ | refine ah rfl rfl rfl rfl (co rfl rfl zG (by simp) (by assumption)) ?_ | refine ah rfl rfl rfl rfl (ez rfl rfl zG (by simp) rfl (by assumption) rfl (by decide)) ?_ | refine ah rfl rfl rfl rfl (el rfl rfl zG (by rfl)) ?_
                     try dsimp only [St.put]
                     first | refine ah rfl rfl rfl rfl (bf rfl rfl) ?_ | refine ah rfl rfl rfl rfl (bv rfl rfl (Enc.len _)) ?_ | refine ah rfl rfl rfl rfl (bv rfl rfl rfl) ?_ | refine ah rfl rfl rfl rfl (c7 rfl rfl zG (by simp) (by first | rfl | assumption)) ?_ | refine ah rfl rfl rfl rfl (d7 rfl rfl zG (by simp) (by rfl)) ?_ | refine ah rfl rfl rfl rfl (er rfl rfl zG (by simp) (by simp)) ?_ | refine ah rfl rfl rfl rfl (co rfl rfl zG (by simp) (em (by assumption) rfl)) ?_ | refine ah rfl rfl rfl rfl (co rfl rfl zG (by simp) (by assumption)) ?_ | refine ah rfl rfl rfl rfl (ez rfl rfl zG (by simp) rfl (by assumption) rfl (by decide)) ?_ | refine ah rfl rfl rfl rfl (el rfl rfl zG (by rfl)) ?_
                     refine cc ?_
                     refine ca [33] (by kernel_rfl) (by simp) ?_
                     refine br ?_ ?_
                     ·try dsimp only [St.put]
                      refine cn rfl rfl rfl (bq rfl rfl rfl (xx a q) ?_)
                      refine dw [(34, none), (35, none), (36, none), (37, none)] (fun i => [34, 35, 36, 37].contains i) 0 (rl [38]) (by kernel_rfl) ?_
                      refine ae rfl rfl rfl rfl (cj rfl rfl rfl) ?_
                      first | refine ae rfl rfl rfl rfl (cm rfl rfl (by constructor)) ?_ | refine ae rfl rfl rfl rfl (ce rfl rfl (by constructor)) ?_ | refine ae rfl rfl rfl rfl (gp rfl rfl rfl rfl) ?_ | refine ae rfl rfl rfl rfl (gn rfl rfl rfl rfl) ?_
                      first | refine ae rfl rfl rfl rfl (cm rfl rfl (by constructor)) ?_ | refine ae rfl rfl rfl rfl (ce rfl rfl (by constructor)) ?_ | refine ae rfl rfl rfl rfl (gp rfl rfl rfl rfl) ?_ | refine ae rfl rfl rfl rfl (gn rfl rfl rfl rfl) ?_
                      refine ae rfl rfl rfl rfl (du rfl (by constructor)) ?_
                      refine cc ?_
                      dsimp only [St.put]
                      refine e8 (by kernel_rfl) ?_
                      refine hK50 _ ?_
                      refine dg ?_
                      first | refine aa rfl (bu rfl rfl rfl (by omega)) ?_ | refine aa rfl (kf rfl rfl rfl) ?_
                      refine aa rfl (cr rfl (by constructor)) ?_
                      refine c4 ?_
                      dsimp only [St.put]
                      refine ⟨i + 1, by omega, by omega, ?_⟩
                      try dsimp only
                      first
                      | (rw [show (d && d9 p.text x (dr (decide (k = 1)) x) (i + 1)) = false by rw [g8, ← Bool.and_assoc, show (d && d9 p.text x (dr (decide (k = 1)) x) i) = false from w0, Bool.false_and]]
                         exact ⟨⟨rfl, rfl⟩, zF, zB, zN, zX⟩)
                      | (rw [show (d && d9 p.text x (dr (decide (k = 1)) x) (i + 1)) = false by rw [g8, jg hq, show f9 p.text q = false from w1]; simp]
                         exact ⟨⟨rfl, rfl⟩, zF, zB, zN, zX⟩)
                      | (rw [show (d && d9 p.text x (dr (decide (k = 1)) x) (i + 1)) = false by rw [g8, jg hq, show fw p.text x q = false from w2]; simp]
                         exact ⟨⟨rfl, rfl⟩, zF, zB, zN, zX⟩)
                      | (rw [show (d && d9 p.text x (dr (decide (k = 1)) x) (i + 1)) = true by rw [g8, ← Bool.and_assoc, show (d && d9 p.text x (dr (decide (k = 1)) x) i) = true from w0, jg hq, w1, w2, decide_eq_true (show i = 0 from w3)]; rfl]
                         exact ⟨⟨rfl, rfl⟩, zF, zB, zN, zX⟩)
                      | (rw [show (d && d9 p.text x (dr (decide (k = 1)) x) (i + 1)) = decide (l8 a q < 0) by rw [g8, ← Bool.and_assoc, show (d && d9 p.text x (dr (decide (k = 1)) x) i) = true from w0, jg hq, w1, w2, decide_eq_false (show ¬ i = 0 from w3), ha]; rfl]
                         exact ⟨⟨rfl, rfl⟩, zF, zB, zN, zX⟩)
                     exact cb
                   ·have w2 : fw p.text x q = false := by
                     rw [ia] at hs
                     unfold fw qb
                     rw [hqc, Int.toNat_natCast, Int.add_comm]; exact hs
                    refine am rfl rfl rfl ?_
                    refine am rfl rfl rfl ?_
                    refine am rfl rfl rfl ?_
                    refine am rfl rfl rfl ?_
                    refine am rfl rfl rfl ?_
                    refine am rfl rfl rfl ?_
                    refine am rfl rfl rfl ?_
                    refine am rfl rfl rfl ?_
                    refine am rfl rfl rfl ?_
                    refine cc ?_
                    refine ca [33] (by kernel_rfl) (by simp) ?_
                    refine br ?_ ?_
                    ·refine gk rfl rfl rfl ?_
                     refine dw [(34, none), (35, none), (36, none), (37, none)] (fun i => [34, 35, 36, 37].contains i) 0 (rl [38]) (by kernel_rfl) ?_
                     refine am rfl rfl rfl ?_
                     refine am rfl rfl rfl ?_
                     first | refine ae rfl rfl rfl rfl (cm rfl rfl (by constructor)) ?_ | refine ae rfl rfl rfl rfl (ce rfl rfl (by constructor)) ?_ | refine ae rfl rfl rfl rfl (gp rfl rfl rfl rfl) ?_ | refine ae rfl rfl rfl rfl (gn rfl rfl rfl rfl) ?_
                     refine ae rfl rfl rfl rfl (du rfl (by constructor)) ?_
                     refine cc ?_
                     dsimp only [St.put]
                     refine e8 (by kernel_rfl) ?_
                     refine hK50 _ ?_
                     refine dg ?_
                     first | refine aa rfl (bu rfl rfl rfl (by omega)) ?_ | refine aa rfl (kf rfl rfl rfl) ?_
                     refine aa rfl (cr rfl (by constructor)) ?_
                     refine c4 ?_
                     dsimp only [St.put]
                     refine ⟨i + 1, by omega, by omega, ?_⟩
                     try dsimp only
                     first
                     | (rw [show (d && d9 p.text x (dr (decide (k = 1)) x) (i + 1)) = false by rw [g8, ← Bool.and_assoc, show (d && d9 p.text x (dr (decide (k = 1)) x) i) = false from w0, Bool.false_and]]
                        exact ⟨⟨rfl, rfl⟩, zF, zB, zN, zX⟩)
                     | (rw [show (d && d9 p.text x (dr (decide (k = 1)) x) (i + 1)) = false by rw [g8, jg hq, show f9 p.text q = false from w1]; simp]
                        exact ⟨⟨rfl, rfl⟩, zF, zB, zN, zX⟩)
                     | (rw [show (d && d9 p.text x (dr (decide (k = 1)) x) (i + 1)) = false by rw [g8, jg hq, show fw p.text x q = false from w2]; simp]
                        exact ⟨⟨rfl, rfl⟩, zF, zB, zN, zX⟩)
                     | (rw [show (d && d9 p.text x (dr (decide (k = 1)) x) (i + 1)) = true by rw [g8, ← Bool.and_assoc, show (d && d9 p.text x (dr (decide (k = 1)) x) i) = true from w0, jg hq, w1, w2, decide_eq_true (show i = 0 from w3)]; rfl]
                        exact ⟨⟨rfl, rfl⟩, zF, zB, zN, zX⟩)
                     | (rw [show (d && d9 p.text x (dr (decide (k = 1)) x) (i + 1)) = decide (l8 a q < 0) by rw [g8, ← Bool.and_assoc, show (d && d9 p.text x (dr (decide (k = 1)) x) i) = true from w0, jg hq, w1, w2, decide_eq_false (show ¬ i = 0 from w3), ha]; rfl]
                        exact ⟨⟨rfl, rfl⟩, zF, zB, zN, zX⟩)
                    exact cb
                  exact cb
                 exact cb
                ·have w1 : f9 p.text q = false := hs
                 refine am rfl rfl rfl ?_
                 refine am rfl rfl rfl ?_
                 refine am rfl rfl rfl ?_
                 refine am rfl rfl rfl ?_
                 refine am rfl rfl rfl ?_
                 refine am rfl rfl rfl ?_
                 refine am rfl rfl rfl ?_
                 refine am rfl rfl rfl ?_
                 refine am rfl rfl rfl ?_
                 refine am rfl rfl rfl ?_
                 refine am rfl rfl rfl ?_
                 refine am rfl rfl rfl ?_
                 refine cc ?_
                 refine ca [20] (by kernel_rfl) (by simp) ?_
                 refine br ?_ ?_
                 ·refine gk rfl rfl rfl ?_
                  refine ca [21] (by kernel_rfl) (by simp) ?_
                  refine br ?_ ?_
                  ·refine gk rfl rfl rfl ?_
                   refine dw [(22, none), (23, none), (24, none), (25, none), (26, none), (27, none), (28, none), (29, none), (30, none), (31, none), (32, none)] (fun i => [22, 23, 24, 25, 26, 27, 28, 29, 30].contains i) 5 (rl [33, 5]) (by kernel_rfl) ?_
                   first | refine ae rfl rfl rfl rfl (cm rfl rfl (by constructor)) ?_ | refine ae rfl rfl rfl rfl (ce rfl rfl (by constructor)) ?_ | refine ae rfl rfl rfl rfl (gp rfl rfl rfl rfl) ?_ | refine ae rfl rfl rfl rfl (gn rfl rfl rfl rfl) ?_
                   refine ae rfl rfl rfl rfl (cr rfl (by constructor)) ?_
                   refine am rfl rfl rfl ?_
                   refine am rfl rfl rfl ?_
                   refine am rfl rfl rfl ?_
                   refine am rfl rfl rfl ?_
                   refine am rfl rfl rfl ?_
                   refine am rfl rfl rfl ?_
                   refine am rfl rfl rfl ?_
                   refine am rfl rfl rfl ?_
                   refine am rfl rfl rfl ?_
                   refine cc ?_
                   refine ca [33] (by kernel_rfl) (by simp) ?_
                   refine br ?_ ?_
                   ·refine gk rfl rfl rfl ?_
                    refine dw [(34, none), (35, none), (36, none), (37, none)] (fun i => [34, 35, 36, 37].contains i) 0 (rl [38]) (by kernel_rfl) ?_
                    refine am rfl rfl rfl ?_
                    refine am rfl rfl rfl ?_
                    first | refine ae rfl rfl rfl rfl (cm rfl rfl (by constructor)) ?_ | refine ae rfl rfl rfl rfl (ce rfl rfl (by constructor)) ?_ | refine ae rfl rfl rfl rfl (gp rfl rfl rfl rfl) ?_ | refine ae rfl rfl rfl rfl (gn rfl rfl rfl rfl) ?_
                    refine ae rfl rfl rfl rfl (du rfl (by constructor)) ?_
                    refine cc ?_
                    dsimp only [St.put]
                    refine e8 (by kernel_rfl) ?_
                    refine hK50 _ ?_
                    refine dg ?_
                    first | refine aa rfl (bu rfl rfl rfl (by omega)) ?_ | refine aa rfl (kf rfl rfl rfl) ?_
                    refine aa rfl (cr rfl (by constructor)) ?_
                    refine c4 ?_
                    dsimp only [St.put]
                    refine ⟨i + 1, by omega, by omega, ?_⟩
                    try dsimp only
                    first
                    | (rw [show (d && d9 p.text x (dr (decide (k = 1)) x) (i + 1)) = false by rw [g8, ← Bool.and_assoc, show (d && d9 p.text x (dr (decide (k = 1)) x) i) = false from w0, Bool.false_and]]
                       exact ⟨⟨rfl, rfl⟩, zF, zB, zN, zX⟩)
                    | (rw [show (d && d9 p.text x (dr (decide (k = 1)) x) (i + 1)) = false by rw [g8, jg hq, show f9 p.text q = false from w1]; simp]
                       exact ⟨⟨rfl, rfl⟩, zF, zB, zN, zX⟩)
                    | (rw [show (d && d9 p.text x (dr (decide (k = 1)) x) (i + 1)) = false by rw [g8, jg hq, show fw p.text x q = false from w2]; simp]
                       exact ⟨⟨rfl, rfl⟩, zF, zB, zN, zX⟩)
                    | (rw [show (d && d9 p.text x (dr (decide (k = 1)) x) (i + 1)) = true by rw [g8, ← Bool.and_assoc, show (d && d9 p.text x (dr (decide (k = 1)) x) i) = true from w0, jg hq, w1, w2, decide_eq_true (show i = 0 from w3)]; rfl]
                       exact ⟨⟨rfl, rfl⟩, zF, zB, zN, zX⟩)
                    | (rw [show (d && d9 p.text x (dr (decide (k = 1)) x) (i + 1)) = decide (l8 a q < 0) by rw [g8, ← Bool.and_assoc, show (d && d9 p.text x (dr (decide (k = 1)) x) i) = true from w0, jg hq, w1, w2, decide_eq_false (show ¬ i = 0 from w3), ha]; rfl]
                       exact ⟨⟨rfl, rfl⟩, zF, zB, zN, zX⟩)
                   exact cb
                  exact cb
                 exact cb
               exact cb
              ·have w0 : (d && d9 p.text x (dr (decide (k = 1)) x) i) = false := hs
               refine am rfl rfl rfl ?_
               refine am rfl rfl rfl ?_
               refine am rfl rfl rfl ?_
               refine cc ?_
               refine ca [5] (by kernel_rfl) (by simp) ?_
               refine br ?_ ?_
               ·refine gk rfl rfl rfl ?_
                refine dw [(6, none), (7, none), (8, none), (9, none), (10, none), (11, none), (12, none), (13, none), (14, none), (15, none), (16, none), (17, none), (18, none), (19, none)] (fun i => [6, 7, 8, 10, 12, 13, 15, 17, 19].contains i) 18 (rl [20, 18]) (by kernel_rfl) ?_
                first | refine ae rfl rfl rfl rfl (cm rfl rfl (by constructor)) ?_ | refine ae rfl rfl rfl rfl (ce rfl rfl (by constructor)) ?_ | refine ae rfl rfl rfl rfl (gp rfl rfl rfl rfl) ?_ | refine ae rfl rfl rfl rfl (gn rfl rfl rfl rfl) ?_
                refine ae rfl rfl rfl rfl (cr rfl (by constructor)) ?_
                refine am rfl rfl rfl ?_
                refine am rfl rfl rfl ?_
                refine am rfl rfl rfl ?_
                refine am rfl rfl rfl ?_
                refine am rfl rfl rfl ?_
                refine am rfl rfl rfl ?_
                refine am rfl rfl rfl ?_
                refine am rfl rfl rfl ?_
                refine am rfl rfl rfl ?_
                refine am rfl rfl rfl ?_
                refine am rfl rfl rfl ?_
                refine am rfl rfl rfl ?_
                refine cc ?_
                refine ca [20] (by kernel_rfl) (by simp) ?_
                refine br ?_ ?_
                ·refine gk rfl rfl rfl ?_
                 refine ca [21] (by kernel_rfl) (by simp) ?_
                 refine br ?_ ?_
                 ·refine gk rfl rfl rfl ?_
                  refine dw [(22, none), (23, none), (24, none), (25, none), (26, none), (27, none), (28, none), (29, none), (30, none), (31, none), (32, none)] (fun i => [22, 23, 24, 25, 26, 27, 28, 29, 30].contains i) 5 (rl [33, 5]) (by kernel_rfl) ?_
                  first | refine ae rfl rfl rfl rfl (cm rfl rfl (by constructor)) ?_ | refine ae rfl rfl rfl rfl (ce rfl rfl (by constructor)) ?_ | refine ae rfl rfl rfl rfl (gp rfl rfl rfl rfl) ?_ | refine ae rfl rfl rfl rfl (gn rfl rfl rfl rfl) ?_
                  refine ae rfl rfl rfl rfl (cr rfl (by constructor)) ?_
                  refine am rfl rfl rfl ?_
                  refine am rfl rfl rfl ?_
                  refine am rfl rfl rfl ?_
                  refine am rfl rfl rfl ?_
                  refine am rfl rfl rfl ?_
                  refine am rfl rfl rfl ?_
                  refine am rfl rfl rfl ?_
                  refine am rfl rfl rfl ?_
                  refine am rfl rfl rfl ?_
                  refine cc ?_
                  refine ca [33] (by kernel_rfl) (by simp) ?_
                  refine br ?_ ?_
                  ·refine gk rfl rfl rfl ?_
                   refine dw [(34, none), (35, none), (36, none), (37, none)] (fun i => [34, 35, 36, 37].contains i) 0 (rl [38]) (by kernel_rfl) ?_
                   refine am rfl rfl rfl ?_
                   refine am rfl rfl rfl ?_
                   first | refine ae rfl rfl rfl rfl (cm rfl rfl (by constructor)) ?_ | refine ae rfl rfl rfl rfl (ce rfl rfl (by constructor)) ?_ | refine ae rfl rfl rfl rfl (gp rfl rfl rfl rfl) ?_ | refine ae rfl rfl rfl rfl (gn rfl rfl rfl rfl) ?_
                   refine ae rfl rfl rfl rfl (du rfl (by constructor)) ?_
                   refine cc ?_
                   dsimp only [St.put]
                   refine e8 (by kernel_rfl) ?_
                   refine hK50 _ ?_
                   refine dg ?_
                   first | refine aa rfl (bu rfl rfl rfl (by omega)) ?_ | refine aa rfl (kf rfl rfl rfl) ?_
                   refine aa rfl (cr rfl (by constructor)) ?_
                   refine c4 ?_
                   dsimp only [St.put]
                   refine ⟨i + 1, by omega, by omega, ?_⟩
                   try dsimp only
                   first
                   | (rw [show (d && d9 p.text x (dr (decide (k = 1)) x) (i + 1)) = false by rw [g8, ← Bool.and_assoc, show (d && d9 p.text x (dr (decide (k = 1)) x) i) = false from w0, Bool.false_and]]
                      exact ⟨⟨rfl, rfl⟩, zF, zB, zN, zX⟩)
                   | (rw [show (d && d9 p.text x (dr (decide (k = 1)) x) (i + 1)) = false by rw [g8, jg hq, show f9 p.text q = false from w1]; simp]
                      exact ⟨⟨rfl, rfl⟩, zF, zB, zN, zX⟩)
                   | (rw [show (d && d9 p.text x (dr (decide (k = 1)) x) (i + 1)) = false by rw [g8, jg hq, show fw p.text x q = false from w2]; simp]
                      exact ⟨⟨rfl, rfl⟩, zF, zB, zN, zX⟩)
                   | (rw [show (d && d9 p.text x (dr (decide (k = 1)) x) (i + 1)) = true by rw [g8, ← Bool.and_assoc, show (d && d9 p.text x (dr (decide (k = 1)) x) i) = true from w0, jg hq, w1, w2, decide_eq_true (show i = 0 from w3)]; rfl]
                      exact ⟨⟨rfl, rfl⟩, zF, zB, zN, zX⟩)
                   | (rw [show (d && d9 p.text x (dr (decide (k = 1)) x) (i + 1)) = decide (l8 a q < 0) by rw [g8, ← Bool.and_assoc, show (d && d9 p.text x (dr (decide (k = 1)) x) i) = true from w0, jg hq, w1, w2, decide_eq_false (show ¬ i = 0 from w3), ha]; rfl]
                      exact ⟨⟨rfl, rfl⟩, zF, zB, zN, zX⟩)
                  exact cb
                 exact cb
                exact cb
               exact cb
             ·replace hc := of_decide_eq_false hc
              obtain rfl : i = (dr (decide (k = 1)) x).length := by omega
              refine cw ?_
              refine hK43 _ ?_
              refine dg ?_
              first | refine aa rfl (bu rfl rfl rfl (by omega)) ?_ | refine aa rfl (kf rfl rfl rfl) ?_
              refine aa rfl (cr rfl (by constructor)) ?_
              refine c4 ?_
              dsimp only [St.put]
              rw [show (d && d9 p.text x (dr (decide (k = 1)) x) (dr (decide (k = 1)) x).length) = oz p (ip p.pages j) x (k + 1) by rw [hd]; simp only [oz, sd, ig, Bool.and_assoc]]
              exact ⟨k + 1, by omega, by omega, ⟨⟨rfl, rfl⟩, zF, zB, zN, zX⟩⟩
         ·replace hc := of_decide_eq_false hc
          obtain rfl : k = 2 := by omega
          rw [ugp]
          refine cw ?_
          refine hK39 _ ?_
          refine dn fun K52 hK52 => ?_
          refine dn fun K53 hK53 => ?_
          refine dg ?_
          refine aa rfl (cr rfl (by constructor)) ?_
          refine aa rfl (ef rfl rfl) ?_
          refine c4 ?_
          dsimp only [St.put]
          refine hK53 _ ?_
          refine ar rfl (fun hc => ?_) (fun hc => ?_)
          ·have hpg : l7 p (ip p.pages j) x = false := by simpa using hc
           have hE : ey p = 90 := wh ht (ur hx hpg)
           rw [hpg]
           refine cw ?_
           refine hK32 _ ?_
           refine dn fun K54 hK54 => ?_
           refine dn fun K55 hK55 => ?_
           refine dg ?_
           refine aa rfl (cr rfl (by constructor)) ?_
           refine aa rfl (ef rfl rfl) ?_
           refine c4 ?_
           dsimp only [St.put]
           refine hK55 _ ?_
           refine ar rfl (fun _ => ?_) (fun h => by cases h)
           refine dn fun K56 hK56 => ?_
           refine dg ?_
           refine aa rfl (du rfl (by constructor)) ?_
           refine aa rfl (du rfl (by constructor)) ?_
           refine c4 ?_
           dsimp only [St.put]
           refine hK56 _ ?_
           refine aw ?_
           refine ot rfl (by constructor) (by constructor) zN zS ?_ ?_
           ·rw [sq (by rw [hE]; decide)]
           ·rw [hE]
          ·have hpg : l7 p (ip p.pages j) x = true := by simpa using hc
           have hpo := pageB_true.1 hpg
           rw [hpg]
           refine ax ?_
           refine hK52 _ ?_
           refine dn fun K57 hK57 => ?_
           refine dg ?_
           first | refine aa rfl (bw rfl rfl rfl) ?_ | refine aa rfl (cv rfl rfl) ?_
           try dsimp only [St.put]
           first | refine af rfl (bf rfl rfl) ?_ | refine af rfl (bv rfl rfl (Enc.len _)) ?_ | refine af rfl (bv rfl rfl rfl) ?_ | refine af rfl (c7 rfl rfl zG trivial (by first | rfl | assumption)) ?_ | refine af rfl (d7 rfl rfl zG trivial (by rfl)) ?_ | refine af rfl (er rfl rfl zG trivial (by simp)) ?_ | refine af rfl (co rfl rfl zG trivial (em (by assumption) rfl)) ?_ | refine af rfl (co rfl rfl zG trivial (by assumption)) ?_ | refine af rfl (ez rfl rfl zG trivial rfl (by assumption) rfl (by decide)) ?_ | refine af rfl (el rfl rfl zG (by rfl)) ?_
           refine aa rfl (du rfl (by constructor)) ?_
           refine c4 ?_
           dsimp only [St.put]
           refine hK57 _ ?_
           refine dg ?_
           refine aa rfl (cr rfl (by constructor)) ?_
           try dsimp only [St.put]
           first | refine af rfl (bf rfl rfl) ?_ | refine af rfl (bv rfl rfl (Enc.len _)) ?_ | refine af rfl (bv rfl rfl rfl) ?_ | refine af rfl (c7 rfl rfl zG trivial (by first | rfl | assumption)) ?_ | refine af rfl (d7 rfl rfl zG trivial (by rfl)) ?_ | refine af rfl (er rfl rfl zG trivial (by simp)) ?_ | refine af rfl (co rfl rfl zG trivial (em (by assumption) rfl)) ?_ | refine af rfl (co rfl rfl zG trivial (by assumption)) ?_ | refine af rfl (ez rfl rfl zG trivial rfl (by assumption) rfl (by decide)) ?_ | refine af rfl (el rfl rfl zG (by rfl)) ?_
           refine aa rfl (cr rfl (by constructor)) ?_
           try dsimp only [St.put]
           refine aj rfl (tp rfl rfl rfl (umo p (ip p.pages j) x ((p.pages.take j).map fun x => (f8 p.text x : Int)) ((p.pages.take j).map (ei p.text)) ((p.pages.take j).map (fe p.text)) (nx + 1) (nx + 1 + 1) (nx + 1 + 1 + 1) (nx + 1 + 1 + 1 + 1) (j + j + j) ht hpo (by rw [List.length_map, List.length_take]; omega) (by rw [List.length_map, List.length_take]; omega) (by rw [List.length_map, List.length_take]; omega) _ _ (by dsimp only [St.put]; omega) (by dsimp only [St.put]; omega) (by dsimp only [St.put]; omega) (by dsimp only [St.put]; omega) (by omega) (by omega) (by omega) (by omega) (by omega) (by omega) zG zG zG zG) ?_)
           refine c4 ?_
           dsimp only [St.put]
           refine hK36 _ ?_
           refine dg ?_
           first | refine aa rfl (bu rfl rfl rfl (by omega)) ?_ | refine aa rfl (kf rfl rfl rfl) ?_
           refine aa rfl (cr rfl (by constructor)) ?_
           refine c4 ?_
           dsimp only [St.put]
           rw [show j + j + j + 1 + 1 + 1 = (j + 1) + (j + 1) + (j + 1) by omega, ← pc (f := fun x => (f8 p.text x : Int)) hx, ← pc (f := ei p.text) hx, ← pc (f := fe p.text) hx, ← ucy hx]
           exact ⟨j + 1, by omega, ⟨by omega, by rw [ubq, hK.2, xw hx, hpg]; rfl⟩, ⟨⟨rfl, rfl⟩, zF, zB, zN, zX⟩⟩
      ·replace hc := of_decide_eq_false hc
       obtain rfl : j = p.pages.length := by omega
       rw [List.take_length]
       have hE : ey p = 0 := ulv ht (by unfold gj; rw [hRB, decide_eq_true hnp, hK.2]; rfl)
       refine cw ?_
       refine hK32 _ ?_
       refine dn fun K58 hK58 => ?_
       refine dn fun K59 hK59 => ?_
       refine dg ?_
       refine aa rfl (cr rfl (by constructor)) ?_
       refine aa rfl (ef rfl rfl) ?_
       refine c4 ?_
       dsimp only [St.put]
       refine hK59 _ ?_
       refine ar rfl (fun h => by cases h) (fun _ => ?_)
       refine ax ?_
       refine hK58 _ ?_
       refine dn fun K60 hK60 => ?_
       refine wt (nx + 1) _ [lst p.text, lst p.firsts, lst p.seconds, lst p.pages, lst (p.pages.map fun x => (f8 p.text x : Int)), lst (p.pages.map (ei p.text)), lst (p.pages.map (fe p.text))] zG zW ?_
       refine gt (i := 12) rfl zG (by simp) ?_
       dsimp only
       refine dg ?_
       refine aa rfl (cr rfl (by constructor)) ?_
       refine aa rfl (du rfl (by constructor)) ?_
       refine aa rfl (du rfl (by constructor)) ?_
       refine c4 ?_
       dsimp only [St.put]
       refine hK60 _ ?_
       refine aw ?_
       refine ot rfl (by constructor) (by constructor) zN zS ?_ ?_
       ·rw [ub4 hE]
       ·rw [hE]
end Go.Proofs.YtgffhbbcpgdjjaaDoor
namespace Go.AB
open Go Go.RowKit

theorem EvR.trans {E1 E2 E3 : Env} {w1 w2 w3 : World} (h : EvR E1 w1 E2 w2) (k : EvR E2 w2 E3 w3) : EvR E1 w1 E3 w3 :=
 ⟨k.B.trans h.B, fun b => Nat.le_trans (h.L b) (k.L b), fun b i hi => (k.cell b i (Nat.lt_of_lt_of_le hi (h.L b))).trans (h.cell b i hi), Nat.le_trans h.nx k.nx, fun n hn v3 x3 y3 h3 => by
  obtain ⟨v2, x2, y2, h2, q1, q2⟩ := k.T n (Nat.lt_of_lt_of_le hn h.nx) _ _ _ h3
  obtain ⟨v1, x1, y1, h1, q3, q4⟩ := h.T n hn _ _ _ h2
  exact ⟨v1, x1, y1, h1, Nat.le_trans q3 q1, fun e => (q4 (by omega)).trans (q2 (by omega))⟩⟩
theorem EvR.drop {E E' : Env} {w w' : World} (h : EvR E w E' w') {m : Nat} (hm : E.nx ≤ m) : EvR E w (E'.drop m) w' :=
 ⟨h.B, h.L, h.cell, hm, fun n hn v x y ht => h.T n hn v x y (by
  simp only [Env.drop] at ht
  split at ht
  ·exact ht
  ·cases ht)⟩
theorem EvR.same {E : Env} {w w' : World} (hc : ∀ b i, i < E.L b → w'.cell? ⟨b, i, none⟩ = w.cell? ⟨b, i, none⟩) : EvR E w E w' :=
 ⟨rfl, fun _ => Nat.le_refl _, hc, Nat.le_refl _, fun _ _ v x y ht => ⟨v, x, y, ht, Nat.le_refl _, fun _ => rfl⟩⟩

/-- An iterator at work: what is owned when so many things have come; how many there are; what they are. -/
structure FC where
 G : Nat → Nat → Option GObj
 nx : Nat
 J : Nat → Env → World → Prop
 N : Nat
 l : Nat
 cl : Nat → List C
def FC.st (I : FC) (st : St) (k : Nat) : St := { st with G := I.G k, nx := I.nx, df := 0 }
structure FC.Ok (P : Program) (I : FC) : Prop where
 sim : ∀ {k E W}, I.J k E W → SimG E W (I.G k) I.nx
 F : ∀ {k E W}, I.J k E W → E.F ≤ W.heap.size
 ev : ∀ {k E W E' W'}, I.J k E W → Ev E W E' W' → SimG E' W' (I.G k) I.nx → I.J k E' W'
 hY : ∀ {k E W vs}, I.J k E W → k < I.N → Rs E W (I.cl k) vs → YieldAt (fen none) 1 P I.l vs.toArray W fun e W' => e = .returned (.bool true) ∧ ∃ E', EvR E W E' W' ∧ I.J (k + 1) E' W'
/-- The contract of an iterator's value, where a fact is known by a name. -/
def wx (nF : Nat) (F : GObj) (P : Program) (gf : Nat) (caps : List C) (N : Nat) (cl : Nat → List C) : Prop :=
 ∀ (I : FC), I.N = N → I.cl = cl → I.Ok P → (∀ k, I.G k nF = some F) → nF < I.nx → ∀ (E : Env) (w : World) (lb : List Value), I.J 0 E w → Rs E w caps lb →
  CallsIn (fen none) 2 P gf (#[.func (.yield I.l) #[] #[]] ++ lb.toArray) w fun e W' => (∃ v, e = .returned v) ∧ ∃ E', I.J N E' W'

section
variable (P : Program) (I : FC)
def FW (c : Code) (Q : Exit → St → Nat → Prop) (st : St) (k : Nat) : Prop :=
 ∀ E W a, I.J k E W → Sim E W (I.st st k) a → cwp none P c (fun e a' W' => ∃ E' st' k', I.J k' E' W' ∧ Sim E' W' (I.st st' k') a' ∧ Q e st' k') a W
def ufc (K : St → Nat → Prop) (Q : Exit → St → Nat → Prop) : Exit → St → Nat → Prop
 | .normal, st, k => K st k
 | e, st, k => Q e st k
def ufd (id : Nat) (Q : Exit → St → Nat → Prop) : Exit → St → Nat → Prop
 | .exit id', st, k => if id' = id then Q .normal st k else Q (.exit id') st k
 | e, st, k => Q e st k
def rq (ops : Array Oper) (K : St → Nat → Prop) (rest : List Oper) (st : St) (k : Nat) : Prop :=
 ∀ E W a, I.J k E W → Sim E W (I.st st k) a → ∀ Q : Exit → Act → World → Prop, (∀ a' E' W' st' k', I.J k' E' W' → Sim E' W' (I.st st' k') a' → K st' k' → Q .normal a' W') → wpListIn (fen none) 1 P ops Q rest a W
end
/-- Cells that name nothing beyond m: what stands in slots last. -/
def lowR (m : Nat) : List Nat → List (Nat × C) → Prop
 | _, [] => True
 | s, p :: r => (s.contains p.1 = true ∨ p.2.low m) ∧ lowR m (p.1 :: s) r
theorem ucn {m : Nat} {l : List C} {i : Nat} (hl : (l.getD i .any).low m) : ∀ {r : List (Nat × C)} {s : List Nat}, lowR m s r → s.contains i = false → (bx l r i).low m
 | [], _, _, _ => hl
 | p :: r, s, h, hi => by
  simp only [bx]
  cases hb : Nat.beq p.1 i
  ·rw [cond_false]
   refine ucn hl h.2 ?_
   have hne : ¬ p.1 = i := fun e => by rw [e] at hb; simp at hb
   simp only [List.contains_cons, Bool.or_eq_false_iff, beq_eq_false_iff_ne]
   exact ⟨fun e => hne e.symm, hi⟩
  ·rw [cond_true]
   have e := Nat.eq_of_beq_eq_true hb
   rcases h.1 with h1 | h1
   ·rw [e, hi] at h1; cases h1
   ·exact h1

/-- .. so what stood in slots ahead. -/
def lowN (m : Nat) (s : List Nat) : Nat → List C → Prop
 | _, [] => True
 | i, c :: l => (s.contains i = true ∨ c.low m) ∧ lowN m s (i + 1) l
theorem ucp {m : Nat} {s : List Nat} : ∀ {l : List C} {i j : Nat}, lowN m s i l → s.contains (i + j) = false → (l.getD j .any).low m
 | [], _, _, _, _ => .any
 | c :: l, i, 0, h, hs => by
  rcases h.1 with h1 | h1
  ·rw [Nat.add_zero] at hs; rw [hs] at h1; cases h1
  ·exact h1
 | c :: l, i, j + 1, h, hs => ucp (l := l) (i := i + 1) (j := j) h.2 (by rw [show i + 1 + j = i + (j + 1) by omega]; exact hs)
theorem uco {m : Nat} {l : List C} {i : Nat} : ∀ {r : List (Nat × C)} {s : List Nat}, ((r.map (·.1)).contains i = false → (l.getD i .any).low m) → lowR m s r → s.contains i = false → (bx l r i).low m
 | [], _, hl, _, _ => hl rfl
 | p :: r, s, hl, h, hi => by
  simp only [bx]
  cases hb : Nat.beq p.1 i
  ·rw [cond_false]
   have hne : ¬ p.1 = i := fun e => by rw [e] at hb; simp at hb
   refine uco (fun hk => hl ?_) h.2 ?_
   ·simp only [List.map_cons, List.contains_cons, Bool.or_eq_false_iff, beq_eq_false_iff_ne]
    exact ⟨fun e => hne e.symm, hk⟩
   ·simp only [List.contains_cons, Bool.or_eq_false_iff, beq_eq_false_iff_ne]
    exact ⟨fun e => hne e.symm, hi⟩
  ·rw [cond_true]
   have e := Nat.eq_of_beq_eq_true hb
   rcases h.1 with h1 | h1
   ·rw [e, hi] at h1; cases h1
   ·exact h1
/-- so that what stands in slots last names nothing beyond what is owned -/
theorem zK {p : Prop} (h : p := by (try dsimp only); repeat' (first | exact trivial | exact .inl rfl | refine ⟨?_, ?_⟩ | exact .v | exact .any | refine .inr ?_ | refine .elem ?_ | refine .agg ?_ | refine .tup ?_ | refine .fn ?_ | exact cg _ _ | exact gd _ _ | exact fa _ _ | exact gg _ (by (try dsimp only); omega) | exact .box (by (try dsimp only); omega) | exact fp | exact eg | exact fg _ | refine dd ?_ ?_)) : p := h
section
variable {P : Program} {I : FC} {Q : Exit → St → Nat → Prop} {st : St} {k : Nat}
theorem th (h : Q .normal st k) : FW P I .skip Q st k := fun _ _ _ hj hs => wpIn_skip ⟨_, st, k, hj, hs, h⟩
theorem yx {id : Nat} (h : Q (.exit id) st k) : FW P I (.exit id) Q st k := fun _ _ _ hj hs => wpIn_exit ⟨_, st, k, hj, hs, h⟩
theorem ph {x z : Code} (h : ∀ K : St → Nat → Prop, (∀ st' k', FW P I z Q st' k' → K st' k') → FW P I x (ufc K Q) st k) : FW P I (.seq x z) Q st k := by
 intro E W a hj hs
 refine wpIn_seq (wpIn_mono (h _ (fun _ _ h => h) E W a hj hs) ?_)
 rintro e a' W' ⟨E', st', k', h1, h2, h3⟩
 cases e with
 | normal => exact h3 E' W' a' h1 h2
 | _ => exact ⟨E', st', k', h1, h2, h3⟩
theorem qz {id : Nat} {c : Code} (h : FW P I c (ufd id Q) st k) : FW P I (.block id c) Q st k := by
 intro E W a hj hs
 refine wpIn_block (wpIn_mono (h E W a hj hs) ?_)
 rintro e a' W' ⟨E', st', k', h0, h1, h2⟩
 cases e with
 | exit id' =>
  simp only [ufd] at h2
  simp only [Exit.inBlock]
  split at h2
  ·rename_i e; rw [if_pos e]; exact ⟨E', st', k', h0, h1, h2⟩
  ·rename_i e; rw [if_neg e]; exact ⟨E', st', k', h0, h1, h2⟩
 | _ => exact ⟨E', st', k', h0, h1, h2⟩
theorem ti {c : Operand} {x z : Code} {b : Bool} (hc : evC st c = .v (.bool b)) (ht : b = true → FW P I x Q st k) (hf : b = false → FW P I z Q st k) : FW P I (.cond c x z) Q st k := by
 intro E W a hj hs
 have : evC (I.st st k) c = .v (.bool b) := hc
 exact wpIn_cond_split ((this ▸ hs.ev c).v_inv) (fun e => ht e E W a hj hs) (fun e => hf e E W a hj hs)
theorem lf {c : Code} (m : Nat) (h : FW P I c Q { st with l := firsts st.l st.r 0 m, r := [] } k) : FW P I c Q st k := fun E W a hj hs => h E W a hj (hs.wipe m)
theorem yw {X : Type} {c : Code} (Inv : X → Prop) (μ : X → Nat) (u : X → List (Nat × C)) (kk : X → Nat) (x0 : X) (hr : st.r = []) (h0 : Inv x0) (e0 : qj st.l [] (u x0)) (hk : k = kk x0)
  (hu : ∀ x, Inv x → pf I.nx (u x))
  (round : ∀ x, Inv x → FW P I c (ufc (fun st' k' => ∃ x', μ x' < μ x ∧ Inv x' ∧ k' = kk x' ∧ Back (I.st st k) (u x') (I.G k') (I.st st' k')) Q) { st with r := u x } (kk x)) : FW P I (.loop c) Q st k := by
 intro E W a hj hs
 refine ud5 (fun m a1 W1 => ∃ x E1, m = μ x ∧ Inv x ∧ I.J (kk x) E1 W1 ∧ Sim E1 W1 (I.st { st with r := u x } (kk x)) a1) (μ x0) ⟨x0, E, rfl, h0, hk ▸ hj, ?_⟩ ?_
 ·have := le_r (n := st.n) (G := I.G k) (nx := I.nx) (df := 0) e0 rfl E W a (by rw [← hr]; exact hs)
  rw [← hk]
  exact this
 ·rintro m a1 W1 ⟨x, E1, rfl, hI, hj1, hs1⟩
  refine wpIn_mono (round x hI E1 W1 a1 hj1 hs1) ?_
  rintro e a' W' ⟨E', st', k', h1, h2, h3⟩
  cases e with
  | normal =>
   obtain ⟨x', q1, q2, rfl, q3⟩ := h3
   refine ⟨μ x', q1, x', E', rfl, q2, h1, ?_⟩
   refine ⟨by have := h2.d; exact this, h2.sz.trans (show st'.n = st.n from q3.n.1), fun i v hv => ?_, h2.g⟩
   have hcl : bx st.l (u x') i = .any ∨ bx st.l (u x') i = bx st'.l st'.r i := by
    by_cases hi : i < st.l.length
    ·rcases v7 _ _ q3.fits i (Nat.zero_le _) (by show i < 0 + st.l.length; omega) with h | h
     ·exact .inl h
     ·exact .inr h.symm
    ·rcases tf st.l (u x') i with ⟨p, hp, he, he2⟩ | ⟨_, he⟩
     ·rcases q3.keys with hk | hk
      ·have : p.1 < st.l.length := vp hk p hp
       omega
      ·rcases v6 hk p hp with h | h
       ·left; rw [he2, h]
       ·right; rw [he2, ← h, he]; rfl
     ·left; rw [he, List.getD_eq_getElem?_getD, List.getElem?_eq_none (by omega)]; rfl
   show R E' W' (bx st.l (u x') i) v
   rcases hcl with h | h
   ·rw [h]; exact .any
   ·rw [h]; exact h2.t i v hv
  | _ => exact ⟨E', st', k', h1, h2, h3⟩
/-- What plain code must leave. -/
def SegP (I : FC) (k : Nat) (l : List C) (n : Nat) (st' : St) : Prop := st'.df = 0 ∧ st'.n = n ∧ (st'.l = l ∨ lowN I.nx (st'.r.map (·.1)) 0 st'.l) ∧ I.nx ≤ st'.nx ∧ (∀ n o, I.G k n = some o → st'.G n = some o) ∧ lowR I.nx [] st'.r
theorem uaw (ok : I.Ok P) {E : Env} {W : World} {a : Act} (hj : I.J k E W) (hs : Sim E W (I.st st k) a) (hr : st.r = []) {E' : Env} {W' : World} {st' : St} {a' : Act} (h1 : Ev E W E' W') (h2 : Sim E' W' st' a') (h3 : SegP I k st.l st.n st') : I.J k (E'.drop I.nx) W' ∧ Sim (E'.drop I.nx) W' (I.st st' k) a' := by
 obtain ⟨q1, q2, q3, q4, q5, q6⟩ := h3
 have hnx : E.nx = I.nx := hs.g.nx
 have hlow := hs.lowG
 have hgl : ∀ n o, I.G k n = some o → n < I.nx ∧ o.low I.nx := hlow
 have hll : ∀ i, i < st.n → (st.l.getD i .any).low I.nx := fun i hi => by
  have := hs.low i hi
  have e : bx (I.st st k).l (I.st st k).r i = st.l.getD i .any := by show bx st.l st.r i = _; rw [hr]; rfl
  rw [e] at this
  exact this
 have hs' := h2.dropTo (st' := I.st st' k) rfl q1.symm q4 (fun i hi => .inr ⟨rfl, by
  rcases q3 with q3 | q3
  ·exact ucn (q3 ▸ hll i (q2 ▸ hi)) q6 rfl
  ·exact uco (fun hk => ucp (i := 0) q3 (by rw [Nat.zero_add]; exact hk)) q6 rfl⟩) (fun n o ho => ⟨q5 n o ho, hgl n o ho⟩)
 exact ⟨ok.ev hj (h1.drop (by omega)) hs'.g, hs'⟩
/-- Plain code. -/
theorem yv (ok : I.Ok P) {c : Code} (hr : st.r = []) (h : AW none P c (fun e st' => SegP I k st.l st.n st' ∧ Q e st' k) (I.st st k)) : FW P I c Q st k := by
 intro E W a hj hs
 refine iq ?_ (h E W a hs)
 rintro e a' W' ⟨st', E', h1, h2, h3⟩
 obtain ⟨q1, q2⟩ := uaw ok hj hs hr h1 h2 h3.1
 exact ⟨_, st', k, q1, q2, h3.2⟩
/-- .. so many pieces of it: what lies between. -/
def ke (P : Program) (I : FC) (z : Code) (Q : Exit → St → Nat → Prop) (k : Nat) (st0 st1 : St) : Prop :=
 ∀ E0 W0 a0 E1 W1 a1, I.J k E0 W0 → Sim E0 W0 (I.st st0 k) a0 → Ev E0 W0 E1 W1 → Sim E1 W1 st1 a1 → cwp none P z (fun e a' W' => ∃ E' st' k', I.J k' E' W' ∧ Sim E' W' (I.st st' k') a' ∧ Q e st' k') a1 W1
theorem pi {x z : Code} (h : AW none P x (ow (ke P I z Q k st) fun _ _ => False) (I.st st k)) : FW P I (.seq x z) Q st k := by
 intro E W a hj hs
 refine wpIn_seq (iq ?_ (h E W a hs))
 rintro e a1 W1 ⟨st1, E1, h1, h2, h3⟩
 cases e with
 | normal => exact h3 E W a E1 W1 a1 hj hs h1 h2
 | _ => exact h3.elim
theorem vy {x z : Code} {st1 : St} (h : AW none P x (ow (ke P I z Q k st) fun _ _ => False) st1) : ke P I (.seq x z) Q k st st1 := by
 intro E0 W0 a0 E1 W1 a1 hj hs hev hs1
 refine wpIn_seq (iq ?_ (h E1 W1 a1 hs1))
 rintro e a2 W2 ⟨st2, E2, h1, h2, h3⟩
 cases e with
 | normal => exact h3 E0 W0 a0 E2 W2 a2 hj hs (hev.trans h1) h2
 | _ => exact h3.elim
theorem pj (ok : I.Ok P) {z : Code} {st1 : St} (hr : st.r = []) (hp : SegP I k st.l st.n st1) (h : FW P I z Q st1 k) : ke P I z Q k st st1 := by
 intro E0 W0 a0 E1 W1 a1 hj hs hev hs1
 obtain ⟨q1, q2⟩ := uaw ok hj hs hr hev hs1 hp
 exact h _ W1 a1 q1 q2
theorem uc7 {id : Nat} {l : List Oper} (h : rq P I l.toArray (Q .normal) l st k) : FW P I (.region id l.toArray false) Q st k := fun E W a hj hs =>
 wpIn_region_lit (h E W a hj hs _ fun a' E' W' st' k' h0 h1 h2 => ⟨E', st', k', h0, h1, h2⟩)
variable {ops : Array Oper} {K : St → Nat → Prop} {rest : List Oper} {o : Oper} {c : C}
theorem udc (h : K st k) : rq P I ops K [] st k := fun E W a hj hs _ hq => wpListIn_nil (hq a E W st k hj hs h)
theorem qc (hg : fb ops st o = some true) (hq : NStep P o (I.st st k) c) (h : rq P I ops K rest (st.put o.dst c) k) : rq P I ops K (o :: rest) st k := by
 intro E W a hj hs Q hQ
 have hg' : fb ops (I.st st k) o = some true := hg
 refine wpListIn_step fun Kr hK => ?_
 rw [if_pos (l3 hg' hs)]
 obtain ⟨v, h1, h2⟩ := hq E W a hs
 refine x5 (vw hg).2 ?_
 unfold Oper.wp
 rw [h2 W]
 have hp := hs.put o.dst h1
 exact hK _ _ (h E W _ hj (by cases hd : o.dst <;> (rw [hd] at hp; exact hp)) Q hQ)
/-- A call of yield. -/
theorem udb (ok : I.Ok P) {fv : Operand} {args : List Operand} {ats : Array TypeId} {cs : List C} (hk : k < I.N) (hg : fb ops st o = some true) (ho : o.op = .call { callee := .value fv, args := args.toArray, argTypes := ats }) (hf : evC st fv = .v (.func (.yield I.l) #[] #[])) (has : args.map (evC st) = cs) (hcs : cs = I.cl k)
  (h1 : rq P I ops K rest (st.put o.dst (.v (.bool true))) (k + 1)) : rq P I ops K (o :: rest) st k := by
 intro E W a hj hs Q hQ
 have hg' : fb ops (I.st st k) o = some true := hg
 have hf' : evC (I.st st k) fv = .v (.func (.yield I.l) #[] #[]) := hf
 refine wpListIn_step fun Kr hK => ?_
 rw [if_pos (l3 hg' hs)]
 have hfv := (hf' ▸ hs.ev fv).v_inv
 subst hcs
 have hra : Rs E W (I.cl k) (args.map a.eval) := by
  rw [← has]
  refine ⟨by simp, fun j c v h1 h2 => ?_⟩
  rw [List.getElem?_map] at h1 h2
  cases hx : args[j]? with
  | none => rw [hx] at h1; cases h1
  | some x =>
   rw [hx] at h1 h2
   simp only [Option.map_some, Option.some.injEq] at h1 h2
   subst h1; subst h2
   exact hs.ev x
 obtain ⟨fn, tmps, assign, body, hy, hR⟩ := ok.hY hj hk hra
 refine ⟨fun _ _ => trivial, ?_⟩
 rw [Oper.semAt_eq _ _ _ (vw hg).2]
 have hrun : (execOp a.eval o).run P W = .ok (.round I.l fn tmps assign body) W := by
  simp only [execOp, ho, resolve, hfv]
  simp [Deferred.ofValue, invoke]
  simpa using hy
 rw [hrun]
 refine ⟨fun e => (by cases e), uhd (hR.mono ?_)⟩
 rintro e W' ⟨rfl, E', h3, h4⟩
 refine hK _ _ (h1 E' W' _ h4 ?_ Q hQ)
 have hdef : a.defers = [] := List.eq_nil_of_length_eq_zero hs.d.2
 have hs' : Sim E' W' (I.st st (k + 1)) a := by
  refine ⟨⟨?_, hs.d.2⟩, hs.sz, fun i v hv => (hs.t i v hv).evr h3, ok.sim h4⟩
  rw [hdef]
  exact ok.F h4
 have hp := hs'.put o.dst (c := .v (.bool true)) (v := .bool true) (.v rfl)
 cases hd : o.dst <;> (rw [hd] at hp; exact hp)
end
theorem Rs.evr2 {E E' : Env} {w w' : World} {cs : List C} {vs : List Value} (h : Rs E w cs vs) (k : Ev E w E' w') : Rs E' w' cs vs := ⟨h.1, fun j c v h1 h2 => (h.2 j c v h1 h2).ev k⟩
theorem uc0 {nF : Nat} {F : GObj} {P : Program} {gf : Nat} {fn : Func} {c : Code} {caps : List C} {N : Nat} {cl : Nat → List C} (hf : P.funcs[gf]? = some fn) (hb : fn.body = some c) (hr : fn.results = #[])
  (h : ∀ I : FC, I.N = N → I.cl = cl → I.Ok P → (∀ k, I.G k nF = some F) → nF < I.nx →
   FW P I c (fun e _ k => (e = .normal ∨ e = .ret) ∧ k = N) { n := caps.length + 1 + (fn.ntmps - (caps.length + 1)), l := .v (.func (.yield I.l) #[] #[]) :: caps, r := [], G := noG, nx := 0 } 0) : wx nF F P gf caps N cl := by
 intro I hN hcl ok hG hn E w lb hj hrs
 have hargs : Rs E w (.v (.func (.yield I.l) #[] #[]) :: caps) (.func (.yield I.l) #[] #[] :: lb) := Rs.cons (.v rfl) hrs
 have hsim := Sim.start hargs (ok.sim hj) (ok.F hj) fn.ntmps
 have e1 : (#[.func (.yield I.l) #[] #[]] ++ lb.toArray : Array Value) = (.func (.yield I.l) #[] #[] :: lb).toArray := by simp
 rw [e1]
 have hw := h I hN hcl ok hG hn E w _ hj (show Sim E w (FC.st I _ 0) _ by unfold FC.st; simpa using hsim)
 refine callsIn_of_wp_marks hf hb trivial (wpIn_mono (ud4 (m := 2) hw) ?_)
 rintro e a' w' ⟨E', st', k', q1, q2, q3, rfl⟩
 have hd : a'.defers = [] := List.eq_nil_of_length_eq_zero q2.d.2
 have fin : bodyPostM (fen none) 2 P fn (fun e W' => (∃ v, e = .returned v) ∧ ∃ E', I.J k' E' W') .ret a' w' := by
  show LeavesInM (fen none) 2 P fn a'.tmps _ a'.defers .returning w'
  rw [hd]
  exact ⟨_, results_none hr _ _ _, ⟨_, rfl⟩, E', q1⟩
 rcases q3 with rfl | rfl
 ·exact fin
 ·exact fin

def tx (J : Nat → Nat → Option GObj) (k : Nat) (e : Exit) (st : St) : Prop :=
 match e with
 | .normal => ∀ n o, J k n = some o → st.G n = some o
 | _ => False
theorem ueo {P : Program} {nF : Nat} {F : GObj} {N : Nat} {g : Operand} {ps : Array Tmp} {assign body : Code} {Q : Exit → St → Prop} {st : St} {gf : Nat} [Fun P gf] {caps : List C} {cl : Nat → List C} (pl : List Tmp)
  (J : Nat → Nat → Option GObj) (u : Nat → List (Nat × C)) (it : wx nF F P gf caps N cl) (hJF : ∀ k, J k nF = some F) (hnF : nF < st.nx)
  (hg : evC st g = .fn (.func gf) caps) (hps : ps = pl.toArray) (hlen : ∀ k, (cl k).length = pl.length)
  (hu : ∀ k, putL pl (cl k) { st with G := J k, df := 0 } = { st with r := u k, G := J k, df := 0 })
  (h0 : ∀ n o, J 0 n = some o → st.G n = some o) (hJ : ∀ k n o, J k n = some o → st.G n = some o ∨ (n < st.nx ∧ o.low st.nx))
  (round : ∀ l k, k < N → AW (some l) P assign (ow (AW (some l) P body (tx J (k + 1))) fun _ _ => False) { st with r := u k, G := J k, df := 0 })
  (done : Q .normal { st with G := J N, df := st.df + 1 }) : AW none P (.rangeFunc g ps assign body) Q st := by
 intro E w a hs
 obtain ⟨vs, hgv, hvs⟩ := (hg ▸ hs.ev g).fn_inv
 have hlow : ∀ {G : Nat → Option GObj}, (∀ n o, G n = some o → st.G n = some o ∨ (n < st.nx ∧ o.low st.nx)) → ∀ n o, G n = some o → n < st.nx ∧ o.low st.nx := fun h n o ho => by
  rcases h n o ho with h1 | h1
  ·exact hs.lowG n o h1
  ·exact h1
 have hF : E.F ≤ w.heap.size := hs.d.F
 have hnx := hs.g.nx
 have simAt : ∀ {E1 : Env} {W : World} {G : Nat → Option GObj} {ds : List Deferred} {k : Nat}, Ev E w E1 W → SimG E1 W G st.nx → DefN E1 W k ds → Sim E1 W { st with G := G, df := k } { a with defers := ds } := fun hev hg1 hd =>
  ⟨hd, hs.sz, fun i v hv => (hs.t i v hv).ev hev, hg1⟩
 have marked : ∀ {E1 : Env} {W : World} {D : Nat}, Ev E w E1 W → (∀ n t, E1.T n = some t → n < st.nx) → NCB st.nx w.heap.size E1 W → w.heap.size ≤ D → W.heap[D]? = some (.deferred (some [])) → DefN E1 W (st.df + 1) ({ target := .collected D, args := #[] } :: a.defers) := fun {E1 W D} hev hlt hn hD hK => by
  refine ⟨⟨⟨D, rfl, by rw [hev.x.F]; omega, hK, fun n t ht hb => ?_, ?_⟩, (hs.d.ev hev).1⟩, by simp [hs.d.2]⟩
  ·have := hn n t D _ (hlt n t ht) ht hb hK rfl
   omega
  ·have : ∀ {ds : List Deferred}, DefOk E w ds → ∀ d' ∈ ds, d'.target ≠ .collected D := by
    intro ds
    induction ds with
    | nil => exact fun _ d' h => by cases h
    | cons d ds ih =>
     rintro ⟨⟨D', e', _, h2, _⟩, k⟩ d' hd'
     rcases List.mem_cons.1 hd' with rfl | hd'
     ·rw [e']
      intro e
      simp only [Target.collected.injEq] at e
      have := (Array.getElem?_eq_some_iff.1 h2).1
      omega
     ·exact ih k d' hd'
   exact this hs.d.1
 refine ud4 (n := 3) (wpIn_rangeFunc fun fn _ => ?_)
 -- the loop's record and the block for deferred calls
 obtain ⟨rc, hrc⟩ : ∃ rc : LoopState → Option Code → Loop, rc = fun s pe => { state := s, pending := pe, fn, tmps := a.tmps, params := ps, assign, body, defers := w.heap.size } := ⟨_, rfl⟩
 obtain ⟨W1, hW1⟩ : ∃ W1, (w.alloc (.deferred (some []))).alloc (.loop (rc .ready none)) = W1 := ⟨_, rfl⟩
 have sz1 : W1.heap.size = w.heap.size + 2 := by rw [← hW1]; simp
 have gr1 : w.grownBy W1 none := by
  refine ⟨by rw [← hW1]; rfl, by rw [← hW1]; rfl, by rw [← hW1]; rfl, by omega, fun k hk _ => ?_⟩
  rw [← hW1, Below.heap_alloc _ _ _ (by simp; omega), Below.heap_alloc _ _ _ hk]
 have recs : W1.heap[w.heap.size + 1]? = some (.loop (rc .ready none)) ∧ W1.heap[w.heap.size]? = some (.deferred (some [])) := by
  rw [← hW1]
  refine ⟨by have := World.alloc_heap_new (w.alloc (.deferred (some []))) (.loop (rc .ready none)); simpa using this, ?_⟩
  rw [Below.heap_alloc _ _ _ (by simp)]
  exact World.alloc_heap_new w _
 have own1 : OwnW E w (J 0) st.nx W1 := OwnW.turn hs.g ⟨E, Ev.refl E w, hs.g.weak h0, fun n t b o _ ht hb _ _ => (hs.g.tb n t.1 t.2.1 t.2.2 b ht hb).2⟩ gr1 (fun r e => by cases e)
 refine ⟨w.heap.size + 1, [{ target := .collected w.heap.size, args := #[] }], W1, { target := .fn (.func gf) vs.toArray, args := #[.func (.yield (w.heap.size + 1)) #[] #[]] }, W1, gf, #[.func (.yield (w.heap.size + 1)) #[] #[]] ++ vs.toArray, W1, ?_, ?_, fun _ _ => trivial, ?_, fun e => (by cases e), ?_⟩
 ·rw [← hW1, hrc]; exact run_enterLoop_outer _ _ _ _ _
 ·simp only [resolve, hgv]; simp [go_sem]
 ·simp [invoke, go_sem, xm]
 have below1 : Below w.heap.size w W1 := ⟨gr1.os, gr1.tape, gr1.output, gr1.size, fun k hk => gr1.block k hk (by simp)⟩
 obtain ⟨E0, hev0, hsg0, hn0⟩ := own1
 have unt : ∀ {E1 : Env} {W : World} {k : Nat} {G : Nat → Option GObj} {o : Obj}, SimG E1 W G st.nx → NCB st.nx w.heap.size E1 W → w.heap.size ≤ k → W.heap[k]? = some o → o.isCells = false → ∀ n t, E1.T n = some t → blk t.2.2 ≠ some k := fun {E1 W k G o} hs1 hn hk' ho hf n t ht hb => by
  have hE1 : E1.nx = st.nx := hs1.nx
  have := hn n t k o (hE1 ▸ hs1.lt n t ht) ht hb ho hf
  omega
 obtain ⟨I, hI⟩ : ∃ I : FC, I = { G := J, nx := st.nx, N := N, l := w.heap.size + 1, cl := cl, J := fun k E1 W => Ev E w E1 W ∧ SimG E1 W (J k) st.nx ∧ NCB st.nx w.heap.size E1 W ∧ W.heap[w.heap.size + 1]? = some (.loop (rc .ready none)) ∧ W.heap[w.heap.size]? = some (.deferred (some [])) } := ⟨_, rfl⟩
 have hIJ : ∀ k E1 W, I.J k E1 W = (Ev E w E1 W ∧ SimG E1 W (J k) st.nx ∧ NCB st.nx w.heap.size E1 W ∧ W.heap[w.heap.size + 1]? = some (.loop (rc .ready none)) ∧ W.heap[w.heap.size]? = some (.deferred (some []))) := fun k E1 W => by rw [hI]
 have ok : I.Ok P := by
  refine ⟨fun {k E1 W} h => ?_, fun {k E1 W} h => ?_, fun {k E1 W E2 W2} h h1 h2 => ?_, ?_⟩
  ·rw [hIJ] at h; rw [hI]; exact h.2.1
  ·rw [hIJ] at h
   rw [h.1.x.F]; exact Nat.le_trans hF h.1.below.size
  ·rw [hIJ] at h ⊢
   rw [hI] at h2
   obtain ⟨q1, q2, q3, q4, q5⟩ := h
   have hE1 : E1.nx = st.nx := q2.nx
   exact ⟨q1.trans h1, h2, q3.step (by omega) q2 h1, h1.x.oth _ _ q4 (unt q2 q3 (by omega) q4 rfl), h1.x.oth _ _ q5 (unt q2 q3 (Nat.le_refl _) q5 rfl)⟩
  -- a round
  rintro k E1 W us hj hkN hcl
  rw [hIJ] at hj
  obtain ⟨hev, hs1, hn, hl, hk⟩ := hj
  have hkN' : k < N := by rw [hI] at hkN; exact hkN
  replace hcl : Rs E1 W (cl k) us := by rw [hI] at hcl; exact hcl
  have hul : us.length = pl.length := by rw [hcl.1]; exact hlen k
  have hE1 : E1.nx = st.nx := hs1.nx
  have unt : ∀ {k : Nat} {o : Obj}, w.heap.size ≤ k → W.heap[k]? = some o → o.isCells = false → ∀ n t, E1.T n = some t → blk t.2.2 ≠ some k := fun h1 h2 h3 => unt hs1 hn h1 h2 h3
  have hIl : I.l = w.heap.size + 1 := by rw [hI]
  rw [hIl]
  have hy := run_yield (P := P) (args := us.toArray) hl (by rw [hrc]; simp [hps, hul])
  rw [hrc] at hy
  refine ⟨fn, _, assign, body, hy, roundIn_of_wpIn trivial ?_⟩
  clear hy
  have ha0 : ({ tmps := (ps.zip us.toArray).foldl (fun t (p, v) => t.setIfInBounds p v) a.tmps, defers := [] } : Act) = sj pl us { tmps := a.tmps, defers := [] } := by
   rw [ubl, hps]
   simp
  have hF1 : E1.F ≤ W.heap.size := by rw [hev.x.F]; exact Nat.le_trans hF hev.below.size
  have hsim := uau pl hcl (simAt (ds := []) (k := 0) hev hs1 ⟨hF1, rfl⟩)
  rw [hu k] at hsim
  show assign.wpIn (fen (some (w.heap.size + 1))) 1 P _ { tmps := (ps.zip us.toArray).foldl (fun t (p, v) => t.setIfInBounds p v) a.tmps, defers := [] } W
  rw [ha0]
  refine wpIn_mono (round (w.heap.size + 1) k hkN' E1 W _ hsim) ?_
  rintro e a1 Wa ⟨st1, E2, q1, q2, q3⟩
  cases e with
  | normal =>
   have hla := q1.x.oth _ _ hl (unt (by omega) hl rfl)
   have hka := q1.x.oth _ _ hk (unt (Nat.le_refl _) hk rfl)
   have hlta := (Array.getElem?_eq_some_iff.1 hla).1
   refine ⟨_, run_beginRound hla (by rw [hrc]), ?_⟩
   -- the record is busy
   have unt2 : ∀ {k : Nat} {o : Obj}, w.heap.size ≤ k → W.heap[k]? = some o → o.isCells = false → ∀ n t, E2.T n = some t → blk t.2.2 ≠ some k := fun {k o} hk' ho hf n t ht hb => by
    obtain ⟨t0, h1, h2⟩ := q1.x.nb n t k o ht hb ho
    exact unt hk' ho hf n t0 h1 h2
   obtain ⟨Wb, hWb⟩ : ∃ Wb, Wa.putObj (w.heap.size + 1) (.loop { rc .ready none with state := .busy }) = Wb := ⟨_, rfl⟩
   rw [hWb]
   have grb : Wa.grownBy Wb (some (w.heap.size + 1)) := hWb ▸ grownBy_putObj' _ _ _
   have hlb : Wb.heap[w.heap.size + 1]? = some (.loop { rc .ready none with state := .busy }) := hWb ▸ World.putObj_heap_same hlta
   have hkb : Wb.heap[w.heap.size]? = some (.deferred (some [])) := (grb.block _ (Array.getElem?_eq_some_iff.1 hka).1 (by simp)).trans hka
   obtain ⟨evb, hcellb⟩ := (hev.trans q1).turn hs.g q2.g.fresh grb (fun r e => by cases e; exact ⟨by omega, _, hla, rfl⟩)
   have hblkb : ∀ n t b, E2.T n = some t → blk t.2.2 = some b → Wb.heap[b]? = Wa.heap[b]? := fun n t b ht hb => by
    refine grb.block b (q2.g.tb n t.1 t.2.1 t.2.2 b ht hb).2 fun e => ?_
    simp only [Option.some.injEq] at e
    subst e
    exact unt2 (by omega) hl rfl n t ht hb
   have gb := q2.g.heap hcellb hblkb grb.size
   have db : DefN E2 Wb st1.df a1.defers := by
    have : ∀ {ds : List Deferred}, DefOk E2 Wa ds → DefOk E2 Wb ds := by
     intro ds
     induction ds with
     | nil => exact fun h => Nat.le_trans h grb.size
     | cons d ds ih =>
      rintro ⟨⟨D', e', h1, h2, h3, h4⟩, k⟩
      refine ⟨⟨D', e', h1, (grb.block D' (Array.getElem?_eq_some_iff.1 h2).1 fun e => ?_).trans h2, h3, h4⟩, ih k⟩
      simp only [Option.some.injEq] at e
      subst e
      rw [hla] at h2; cases h2
    exact ⟨this q2.d.1, q2.d.2⟩
   have simb : Sim E2 Wb st1 a1 := ⟨db, q2.sz, fun i v hv => (q2.t i v hv).same (fun _ => Nat.le_refl _) hcellb rfl rfl, gb⟩
   have nb2 : NCB st.nx w.heap.size E2 Wb := fun n t b o hm ht hb ho hf => by
    have := hblkb n t b ht hb
    exact hn.step (by omega) hs1 q1 n t b o hm ht hb (this.symm.trans ho) hf
   have hm2 : st.nx ≤ E2.nx := hE1 ▸ q1.nx
   refine wpIn_mono (q3 E2 Wb a1 simb) ?_
   rintro e a3 W3 ⟨st', E3, r1, r2, r3⟩
   have hl3 := r1.x.oth _ _ hlb (unt2 (by omega) hl rfl)
   have hk3 := r1.x.oth _ _ hkb (unt2 (Nat.le_refl _) hk rfl)
   have nb3 := nb2.step hm2 gb r1
   have own : ∀ {Gk : Nat → Option GObj}, (∀ n o, Gk n = some o → st'.G n = some o) → (∀ n o, Gk n = some o → n < st.nx ∧ o.low st.nx) → OwnW E w Gk st.nx W3 := fun {Gk} hsub hlw =>
    ⟨E3.drop st.nx, (evb.trans r1).drop (by omega), (r2.g.weak hsub).drop hlw, fun n t b o hm ht hb ho hf => nb3 n t b o hm (by simp only [Env.drop] at ht; rw [if_pos hm] at ht; exact ht) hb ho hf⟩
   -- the end of the round
   have fin : ∀ (jump : Option Code), (Instr.endRound (w.heap.size + 1) jump).run P W3 = .ok (.bool jump.isNone) (W3.putObj (w.heap.size + 1) (.loop (rc (if jump.isNone then .ready else .done) jump))) ∧
     (W3.putObj (w.heap.size + 1) (.loop (rc (if jump.isNone then .ready else .done) jump))).heap[w.heap.size + 1]? = some (.loop (rc (if jump.isNone then .ready else .done) jump)) ∧
     (W3.putObj (w.heap.size + 1) (.loop (rc (if jump.isNone then .ready else .done) jump))).heap[w.heap.size]? = some (.deferred (some [])) := fun jump => by
    refine ⟨?_, World.putObj_heap_same (Array.getElem?_eq_some_iff.1 hl3).1, (World.putObj_heap_other (by omega)).trans hk3⟩
    have := run_endRound (P := P) jump hl3
    rw [hrc] at this ⊢
    exact this
   have keep : ∀ jump, KeepL E W (W3.putObj (w.heap.size + 1) (.loop (rc (if jump.isNone then .ready else .done) jump))) := fun jump => ⟨by
    rw [World.putObj_size]
    exact Nat.le_trans q1.below.size (Nat.le_trans grb.size r1.below.size), fun b i hi => by
    have hne : b ≠ w.heap.size + 1 := fun e => by subst e; rw [hs.g.fresh _ (by omega)] at hi; omega
    refine (World.cell?_of_block (w := W3) (World.putObj_heap_other hne)).trans ?_
    have h1 : i < E1.L b := Nat.lt_of_lt_of_le hi (hev.L b)
    have h2 : i < E2.L b := Nat.lt_of_lt_of_le h1 (q1.L b)
    exact (r1.cell b i h2).trans ((hcellb b i h2).trans (q1.cell b i h1))⟩
   cases e with
   | normal =>
    obtain ⟨h1, h2, h3⟩ := fin none
    have hjm : ∀ n o, J (k + 1) n = some o → n < st.nx ∧ o.low st.nx := hlow (hJ _)
    have hown : OwnW E w (J (k + 1)) st.nx W3 := own r3 hjm
    have hevd : Ev E w (E3.drop st.nx) W3 := (evb.trans r1).drop (by omega)
    have hsgd : SimG (E3.drop st.nx) W3 (J (k + 1)) st.nx := (r2.g.weak r3).drop hjm
    have hncd : NCB st.nx w.heap.size (E3.drop st.nx) W3 := fun n t b o hm ht hb ho hf => nb3 n t b o hm (by simp only [Env.drop] at ht; rw [if_pos hm] at ht; exact ht) hb ho hf
    obtain ⟨W4, hW4⟩ : ∃ W4, W3.putObj (w.heap.size + 1) (.loop (rc (if (none : Option Code).isNone then .ready else .done) none)) = W4 := ⟨_, rfl⟩
    have gr4 : W3.grownBy W4 (some (w.heap.size + 1)) := hW4 ▸ grownBy_putObj' _ _ _
    have hrow : ∀ r, some (w.heap.size + 1) = some r → w.heap.size ≤ r ∧ ∃ o : Obj, W3.heap[r]? = some o ∧ o.isCells = false := fun r e => by cases e; exact ⟨by omega, _, hl3, rfl⟩
    obtain ⟨ev4, hcell4⟩ := hevd.turn hs.g hsgd.fresh gr4 hrow
    have unt3 : ∀ n t b, (E3.drop st.nx).T n = some t → blk t.2.2 = some b → W4.heap[b]? = W3.heap[b]? := fun n t b ht hb => by
     refine gr4.block b (hsgd.tb n t.1 t.2.1 t.2.2 b ht hb).2 fun e => ?_
     simp only [Option.some.injEq] at e
     subst e
     have := hncd n t _ _ (hsgd.nx ▸ hsgd.lt n t ht) ht hb hl3 rfl
     omega
    have hsg4 : SimG (E3.drop st.nx) W4 (J (k + 1)) st.nx := hsgd.heap hcell4 unt3 gr4.size
    have hnc4 : NCB st.nx w.heap.size (E3.drop st.nx) W4 := fun n t b o hm ht hb ho hf => hncd n t b o hm ht hb ((unt3 n t b ht hb).symm.trans ho) hf
    rw [hW4] at h1 h2 h3
    refine ⟨_, _, h1, rfl, E3.drop st.nx, ?_, ?_⟩
    ·have t1 : EvR E1 W E2 Wb := q1.r.trans (EvR.same hcellb)
     have t2 : EvR E1 W (E3.drop st.nx) W3 := (t1.trans r1.r).drop (by omega)
     exact t2.trans (EvR.same hcell4)
    ·rw [hIJ]
     exact ⟨ev4, hsg4, hnc4, h2, h3⟩
   | _ => exact r3.elim
  | _ => exact q3.elim
 have hcall := it I (by rw [hI]) (by rw [hI]) ok (fun k => by rw [hI]; exact hJF k) (by rw [hI]; exact hnF) E0 W1 vs (by rw [hIJ]; exact ⟨hev0, hsg0, hn0, recs.1, recs.2⟩) (hvs.evr2 hev0)
 rw [show I.l = w.heap.size + 1 by rw [hI]] at hcall
 refine hcall.mono ?_
 -- behind the iterator
 rintro e W2 ⟨⟨v, rfl⟩, E1, hj⟩
 rw [hIJ] at hj
 obtain ⟨hevj, hsj, hnj, hl, hk⟩ := hj
 have hI2 : OwnW E w (J N) st.nx W2 := ⟨E1, hevj, hsj, hnj⟩
 obtain ⟨E1, hev, hs1, hn⟩ := hI2.put hs.g (by omega) hl rfl (.loop { rc .ready none with state := .exhausted })
 have hK : (W2.putObj (w.heap.size + 1) (.loop { rc .ready none with state := .exhausted })).heap[w.heap.size]? = some (.deferred (some [])) := (World.putObj_heap_other (by omega)).trans hk
 exact ⟨none, _, by have := run_endLoop (P := P) hl (by rw [hrc]; simp); rw [hrc] at this ⊢; exact this, _, E1, hev, simAt hev hs1 (marked hev (fun n t ht => hs1.nx ▸ hs1.lt n t ht) hn (Nat.le_refl _) hK), done⟩
end Go.AB
namespace Go.AB
open Go Go.RowKit
open Go.AB.Enc (cells)
open Go.PB (ay ak PlaceD bi bk bj bz av aq cy cx dp dm)
/-- how many readers are ahead of a side -/
def sdN (p : aq) : Nat → Nat
 | 0 => 0
 | 1 => p.firsts.length
 | _ => p.firsts.length + p.seconds.length
theorem xj {p : aq} : ∀ {k : Nat}, k < 2 → sdN p (k + 1) = sdN p k + (eh p (decide (k = 1))).length
 | 0, _ => (Nat.zero_add _).symm
 | 1, _ => rfl
 | k + 2, h => by omega
theorem uj7 {p : aq} : ∀ {k i : Nat}, k < 2 → i < (eh p (decide (k = 1))).length → dh p (sdN p k + i) = jz p (decide (k = 1)) i ∧ sdN p k + i < bl p
 | 0, i, _, h => by
  have h : i < p.firsts.length := h
  rw [show sdN p 0 + i = i from Nat.zero_add i]
  unfold dh bl
  rw [decide_eq_true h]
  exact ⟨rfl, by omega⟩
 | 1, i, _, h => by
  have h : i < p.seconds.length := h
  rw [show sdN p 1 + i = p.firsts.length + i from rfl]
  unfold dh bl
  rw [decide_eq_false (by omega), Nat.add_sub_cancel_left]
  exact ⟨rfl, by omega⟩
 | k + 2, _, h, _ => by omega
end Go.AB
namespace Go.Proofs.YtgffhbbcpgdjjaaDoor
set_option maxRecDepth 10000
open Go Go.RowKit Go.AB
open Go.AB.Enc (cells)
open Go.PB (ay ak PlaceD bi bk bj bz av aq cy cx dp dm)
set_option maxHeartbeats 1000000 in
theorem uj6 (nF : Nat) (p : aq) (h : f5 p) : wx nF m8 Tryd.prog 110 [.elem [.elem (lm p)]] (bl p) (fun k => [.v (.int .i64 (dh p k))]) := by
 refine uc0 Tryd.func110 rfl rfl fun I hN hcl ok hG hn => ?_
 simp only [Tryd.ntmps110, List.length_cons, List.length_nil, Nat.reduceAdd, Nat.reduceSub]
 have hn1 := h.nf
 have hn2 := h.ns
 refine lf 2 ?_
 refine zQ ?_
 refine pi ?_
 dsimp only [FC.st]
 refine ci fun hlt => ?_
 dsimp only at hlt
 refine dg ?_
 try dsimp only [St.put]
 refine af rfl (el (n := 6) (m := nF) rfl rfl (hG _) rfl) ?_
 refine aa rfl (cr rfl (by constructor)) ?_
 refine c4 ?_
 dsimp only [St.put]
 show ke _ _ _ _ _ _ _
 refine pj ok rfl ⟨rfl, rfl, zK, zN, zS, zK⟩ ?_
 refine qz ?_
 refine lf 10 ?_
 refine zQ ?_
 refine yw (X := Nat) (fun k => k ≤ 2) (fun k => 2 - k) (fun k => [(2, .any), (3, .any), (4, .any), (5, .any), (6, .any), (7, .any), (9, .v (.int .i64 (k : Int)))]) (fun k => sdN p k) 0 rfl ?_ ?_ ?_ ?_ ?_
 ·exact Nat.zero_le _
 ·exact zF
 ·rfl
 ·rintro k hI
  exact zL
 ·rintro k hI
  dsimp only at hI ⊢
  refine lf 10 ?_
  refine zQ ?_
  refine pi ?_
  dsimp only [FC.st]
  refine ci fun hlt => ?_
  dsimp only at hlt
  refine dg ?_
  refine aa rfl (cj rfl rfl rfl) ?_
  refine c4 ?_
  dsimp only [St.put]
  show ke _ _ _ _ _ _ _
  refine pj ok rfl ⟨rfl, rfl, zK, zN, zS, zK⟩ ?_
  refine ph fun K1 hK1 => ?_
  refine ti rfl (fun hc => ?_) (fun hc => ?_)
  ·replace hc := of_decide_eq_true hc
   have hk : k < 2 := by omega
   have hsl : (eh p (decide (k = 1))).length ≤ 3 := by
    cases decide (k = 1)
    ·exact hn1
    ·exact hn2
   refine th ?_
   refine hK1 _ _ ?_
   refine ph fun K2 hK2 => ?_
   refine qz ?_
   refine lf 10 ?_
   refine zQ ?_
   refine pi ?_
   dsimp only [FC.st]
   refine ci fun hlt => ?_
   dsimp only at hlt
   refine dg ?_
   refine aa rfl (ve (k := k) (m := 2) (sz := 3) rfl rfl rfl rfl hk (uj hk)) ?_
   try dsimp only [St.put]
   refine aj rfl (eb rfl ?_)
   try dsimp only [St.put]
   first | refine aj rfl (dj rfl rfl rfl zG rfl rfl (by rfl) ?_) | refine aj rfl (ja rfl rfl rfl zG (by constructor) rfl zO ?_)
   refine c4 ?_
   dsimp only [St.put]
   show ke _ _ _ _ _ _ _
   refine vy ?_
   refine gt (i := 4) rfl zG zC ?_
   dsimp only
   refine fm [(0, none), (1, none), (2, none), (3, none), (4, none), (5, none), (8, none), (6, none), (7, none)] (fun i => [6].contains i) (fun i => [6].contains i) (fun i => [0, 3, 4, 7, 8].contains i) [] (by kernel_rfl) (by kernel_rfl) ?_
   first | refine ae rfl rfl rfl rfl (bw rfl rfl rfl) ?_ | refine ae rfl rfl rfl rfl (cv rfl rfl) ?_
   try dsimp only [St.put]
   first | refine ah rfl rfl rfl rfl (bf rfl rfl) ?_ | refine ah rfl rfl rfl rfl (bv rfl rfl (Enc.len _)) ?_ | refine ah rfl rfl rfl rfl (bv rfl rfl rfl) ?_ | refine ah rfl rfl rfl rfl (c7 rfl rfl zG (by simp) (by first | rfl | assumption)) ?_ | refine ah rfl rfl rfl rfl (d7 rfl rfl zG (by simp) (by rfl)) ?_ | refine ah rfl rfl rfl rfl (er rfl rfl zG (by simp) (by simp)) ?_ | refine ah rfl rfl rfl rfl (co rfl rfl zG (by simp) (em (by assumption) rfl)) ?_ | refine ah rfl rfl rfl rfl (co rfl rfl zG (by simp) (by assumption)) ?_ | refine ah rfl rfl rfl rfl (ez rfl rfl zG (by simp) rfl (by assumption) rfl (by decide)) ?_ | refine ah rfl rfl rfl rfl (el rfl rfl zG (by rfl)) ?_
   try dsimp only [St.put]
   first | refine ah rfl rfl rfl rfl (bf rfl rfl) ?_ | refine ah rfl rfl rfl rfl (bv rfl rfl (Enc.len _)) ?_ | refine ah rfl rfl rfl rfl (bv rfl rfl rfl) ?_ | refine ah rfl rfl rfl rfl (c7 rfl rfl zG (by simp) (by first | rfl | assumption)) ?_ | refine ah rfl rfl rfl rfl (d7 rfl rfl zG (by simp) (by rfl)) ?_ | refine ah rfl rfl rfl rfl (er rfl rfl zG (by simp) (by simp)) ?_ | refine ah rfl rfl rfl rfl (co rfl rfl zG (by simp) (em (by assumption) rfl)) ?_ | refine ah rfl rfl rfl rfl (co rfl rfl zG (by simp) (by assumption)) ?_ | refine ah rfl rfl rfl rfl (ez rfl rfl zG (by simp) rfl (by assumption) rfl (by decide)) ?_ | refine ah rfl rfl rfl rfl (el rfl rfl zG (by rfl)) ?_
   first | refine ae rfl rfl rfl rfl (og rfl rfl) ?_ | refine ae rfl rfl rfl rfl (kx rfl rfl) ?_ | refine ae rfl rfl rfl rfl (uji rfl rfl) ?_
   first | refine ae rfl rfl rfl rfl (bw rfl rfl rfl) ?_ | refine ae rfl rfl rfl rfl (cv rfl rfl) ?_
   try dsimp only [St.put]
   refine ah rfl rfl rfl rfl (c := val p) (jc (cs := lm p) rfl rfl (show 4 ≤ 7 by decide)) ?_
   refine ae rfl rfl rfl rfl (cr rfl (by constructor)) ?_
   refine il ?_
   try dsimp only [St.put]
   refine fy rfl rfl rfl rfl (bq rfl rfl rfl (pr (decide (k = 1)) p) ?_)
   first | refine ep rfl rfl rfl rfl (ba rfl rfl (List.length_map _)) ?_ | refine ep rfl rfl rfl rfl (ba rfl rfl rfl) ?_ | refine ep rfl rfl rfl rfl (l9 rfl rfl) ?_ | refine ep rfl rfl rfl rfl (pa rfl rfl) ?_ | refine ep rfl rfl rfl rfl (oh rfl rfl) ?_ | refine ep rfl rfl rfl rfl (o9 rfl rfl (by omega)) ?_
   refine ij ?_
   dsimp only [St.put]
   show ke _ _ _ _ _ _ _
   refine pj ok rfl ⟨rfl, rfl, zK, zN, zS, zK⟩ ?_
   refine qz ?_
   refine lf 21 ?_
   refine zQ ?_
   refine yw (X := Nat) (fun i => i ≤ (eh p (decide (k = 1))).length) (fun i => (eh p (decide (k = 1))).length - i) (fun i => [(5, .any), (6, .any), (7, .any), (20, .v (.int .i64 (i : Int)))]) (fun i => sdN p k + i) 0 rfl ?_ ?_ ?_ ?_ ?_
   ·exact Nat.zero_le _
   ·exact zF
   ·rfl
   ·rintro i hI
    exact zL
   ·rintro i hJ
    dsimp only at hJ ⊢
    refine lf 21 ?_
    refine zQ ?_
    refine pi ?_
    dsimp only [FC.st]
    refine ci fun hlt => ?_
    dsimp only at hlt
    refine dg ?_
    refine aa rfl (cj rfl rfl rfl) ?_
    refine c4 ?_
    dsimp only [St.put]
    show ke _ _ _ _ _ _ _
    refine pj ok rfl ⟨rfl, rfl, zK, zN, zS, zK⟩ ?_
    refine ph fun K3 hK3 => ?_
    refine ti rfl (fun hc => ?_) (fun hc => ?_)
    ·replace hc := of_decide_eq_true hc
     have hi : i < (eh p (decide (k = 1))).length := by omega
     obtain ⟨hL, hN2⟩ := uj7 hk hi
     refine th ?_
     refine hK3 _ _ ?_
     refine ph fun K4 hK4 => ?_
     refine qz ?_
     refine lf 21 ?_
     refine zQ ?_
     refine pi ?_
     dsimp only [FC.st]
     refine ci fun hlt => ?_
     dsimp only at hlt
     refine dg ?_
     refine aa rfl (cr rfl (by constructor)) ?_
     refine aa rfl (du rfl (by constructor)) ?_
     refine c4 ?_
     dsimp only [St.put]
     show ke _ _ _ _ _ _ _
     refine vy ?_
     refine dg ?_
     try dsimp only [St.put]
     first | refine af rfl (bf rfl rfl) ?_ | refine af rfl (bv rfl rfl (Enc.len _)) ?_ | refine af rfl (bv rfl rfl rfl) ?_ | refine af rfl (c7 rfl rfl zG trivial (by first | rfl | assumption)) ?_ | refine af rfl (d7 rfl rfl zG trivial (by rfl)) ?_ | refine af rfl (er rfl rfl zG trivial (by simp)) ?_ | refine af rfl (co rfl rfl zG trivial (em (by assumption) rfl)) ?_ | refine af rfl (co rfl rfl zG trivial (by assumption)) ?_ | refine af rfl (ez rfl rfl zG trivial rfl (by assumption) rfl (by decide)) ?_ | refine af rfl (el rfl rfl zG (by rfl)) ?_
     try dsimp only [St.put]
     first | refine af rfl (bf rfl rfl) ?_ | refine af rfl (bv rfl rfl (Enc.len _)) ?_ | refine af rfl (bv rfl rfl rfl) ?_ | refine af rfl (c7 rfl rfl zG trivial (by first | rfl | assumption)) ?_ | refine af rfl (d7 rfl rfl zG trivial (by rfl)) ?_ | refine af rfl (er rfl rfl zG trivial (by simp)) ?_ | refine af rfl (co rfl rfl zG trivial (em (by assumption) rfl)) ?_ | refine af rfl (co rfl rfl zG trivial (by assumption)) ?_ | refine af rfl (ez rfl rfl zG trivial rfl (by assumption) rfl (by decide)) ?_ | refine af rfl (el rfl rfl zG (by rfl)) ?_
     refine aa rfl (cr rfl (by constructor)) ?_
     try dsimp only [St.put]
     refine aj rfl (bq rfl rfl rfl (uid p (decide (k = 1)) i h hi) ?_)
     refine aa rfl (cr rfl (by constructor)) ?_
     refine aa rfl (su rfl rfl rfl) ?_
     refine aa rfl (su rfl rfl rfl) ?_
     refine aa rfl (du rfl (by constructor)) ?_
     refine aa rfl (du rfl (by constructor)) ?_
     refine c4 ?_
     dsimp only [St.put]
     show ke _ _ _ _ _ _ _
     refine pj ok rfl ⟨rfl, rfl, zK, zN, zS, zK⟩ ?_
     refine ph fun K5 hK5 => ?_
     refine uc7 ?_
     refine qc rfl (cr rfl (by constructor)) ?_
     refine qc rfl (cr rfl (by constructor)) ?_
     try dsimp only [St.put]
     refine udb ok (by rw [hN]; exact hN2) rfl rfl rfl rfl (by rw [hcl]; show _ = [C.v (.int .i64 (dh p (sdN p k + i)))]; rw [hL]; rfl) ?_
     refine qc rfl (ef rfl rfl) ?_
     refine udc ?_
     dsimp only [St.put]
     refine hK5 _ _ ?_
     refine ti rfl (fun h => by cases h) (fun _ => ?_)
     refine th ?_
     refine hK4 _ _ ?_
     refine lf 21 ?_
     refine zQ ?_
     refine yv ok rfl ?_
     dsimp only [FC.st]
     refine ci fun hlt => ?_
     dsimp only at hlt
     refine dg ?_
     first | refine aa rfl (bu rfl rfl rfl (by omega)) ?_ | refine aa rfl (kf rfl rfl rfl) ?_
     refine aa rfl (cr rfl (by constructor)) ?_
     refine c4 ?_
     dsimp only [St.put]
     refine ⟨⟨rfl, rfl, zK, zN, zS, zK⟩, ?_⟩
     exact ⟨i + 1, by omega, by omega, rfl, ⟨⟨rfl, rfl⟩, zF, zB, zN, zX⟩⟩
    ·replace hc := of_decide_eq_false hc
     obtain rfl : i = (eh p (decide (k = 1))).length := by omega
     refine yx ?_
     refine hK2 _ _ ?_
     refine lf 10 ?_
     refine zQ ?_
     refine yv ok rfl ?_
     dsimp only [FC.st]
     refine ci fun hlt => ?_
     dsimp only at hlt
     refine dg ?_
     first | refine aa rfl (bu rfl rfl rfl (by omega)) ?_ | refine aa rfl (kf rfl rfl rfl) ?_
     refine aa rfl (cr rfl (by constructor)) ?_
     refine c4 ?_
     dsimp only [St.put]
     refine ⟨⟨rfl, rfl, zK, zN, zS, zK⟩, ?_⟩
     exact ⟨k + 1, by omega, by omega, (xj hk).symm, ⟨⟨rfl, rfl⟩, zF, zB, zN, zX⟩⟩
  ·replace hc := of_decide_eq_false hc
   obtain rfl : k = 2 := by omega
   refine yx ?_
   exact ⟨.inl rfl, rfl⟩
end Go.Proofs.YtgffhbbcpgdjjaaDoor
namespace Go.AB
open Go Go.RowKit
open Go.AB.Enc (cells)
open Go.PB (ay ak PlaceD bi bk bj bz av aq cy cx dp dm)
theorem uev {α : Type} (d v : α) : atE 0 d v = v := rfl
theorem rh {α : Type} {e : Int} (h : e ≠ 0) (d v : α) : atE e d v = d := by unfold atE; rw [decide_eq_false h]; rfl
theorem ucw {p : aq} {e : Int} (h : e ≠ 0) : k8 p e = e := by unfold k8; rw [decide_eq_false h]; rfl
theorem sy (p : aq) : k8 p 0 = bif iz p then 0 else 8 := rfl
end Go.AB
namespace Go.Proofs.YtgffhbbcpgdjjaaDoor
set_option maxRecDepth 10000
open Go.RowKit Go.AB
open Go.AB.Enc (cells)
open Go.PB (ay ak PlaceD bi bk bj bz av aq cy cx dp dm)
end Go.Proofs.YtgffhbbcpgdjjaaDoor
namespace Go.AB
open Go Go.RowKit
open Go.AB.Enc (cells)
open Go.PB (ay ak PlaceD bi bk bj bz av aq cy cx dp dm)
theorem p7 {P : Program} {o : Oper} {st : St} {t : TypeId} {x y : Operand} {k : IntKind} {a b : Int} (hab : a = b) (ho : o.op = .binOp .neq t x y t) (hx : evC st x = .v (.int k a)) (hy : evC st y = .v (.int k b)) : NStep P o st (.v (.bool false)) := by
 subst hab
 have := i0 (P := P) ho hx hy
 rwa [decide_eq_true rfl] at this
instance : FlatV bz := ⟨fun x => [.int .i64 x.id, .int .i64 x.miss], fun _ => rfl⟩
def kh (x : av) : Bool := decide (200 < x.found.length) || decide (200 < x.well.length)
def nl (p : aq) : Bool := ld p.text || decide (6 < p.firsts.length) || decide (6 < p.seconds.length) || decide (12 < p.pages.length) || p.pages.any kh
end Go.AB
namespace Go.Proofs.YtgffhbbcpgdjjaaDoor
set_option maxRecDepth 10000
open Go.RowKit Go.AB
open Go.AB.Enc (cells)
open Go.PB (ay ak PlaceD bi bk bj bz av aq cy cx dp dm)
theorem ufw : Tryd.prog.underlying 71 = some (.struct (Tryd.prog.fieldsOf 71)) := by kernel_rfl
theorem ugw : Tryd.prog.stoodInHeld 71 = false := by kernel_rfl
instance : EqT Tryd.prog 71 bz where
 guard op w x y xs ys := run_eqGuard_agg w op _ x y xs ys (by kernel_rfl)
 same w x y := by
  obtain ⟨a, b⟩ := x
  obtain ⟨a', b'⟩ := y
  simp only [FlatV.vals]
  rw [run_equalIn_agg _ _ _ _ _ ufw ugw]
  by_cases h1 : a = a' <;> by_cases h2 : b = b' <;> simp [go_sem, h1, h2]
theorem uh5 (p : aq) : Pure Tryd.prog 6 [val p] (.v (.bool (nl p))) := by
 refine cz Tryd.func6 rfl (fun m => .v) fun G nx => ?_
 simp only [Tryd.ntmps6, List.length_cons, List.length_nil, Nat.reduceAdd, Nat.reduceSub]
 refine ci fun hlt => ?_
 dsimp only at hlt
 refine yS fun _ K1 => ?_
 refine yR ?_
 try dsimp only [St.put]
 refine yB rfl rfl rfl ?_
 refine yA rfl rfl ?_
 refine yN ?_
 dsimp only [St.put]
 refine K1 _ ?_
 refine yS fun _ K2 => ?_
 refine ck 4 ?_
 refine zQ ?_
 refine km (X := Bool) (fun d => (ld p.text || decide (6 < p.firsts.length) || decide (6 < p.seconds.length) || decide (12 < p.pages.length)) = d) (fun d => [(24, .v (.bool d))]) (fun d G' => G') rfl ?_ (fun _ _ _ _ h => .inl h) ?_ ?_
 ·rintro d hI
  exact zL
 ·refine yR ?_
  refine yF rfl rfl rfl rfl ?_
  try dsimp only [St.put]
  refine af rfl (c := fj p.text) (jc (cs := cells p) rfl rfl (show 1 ≤ 4 by decide)) ?_
  try dsimp only [St.put]
  refine aj rfl (bq rfl rfl rfl (um1 p.text) ?_)
  refine yM rfl rfl ?_
  refine eo (fun hs => ?_) (fun hs => ?_)
  ·have h1 : ld p.text = true := hs
   refine yK rfl ?_
   refine yK rfl ?_
   refine yK rfl ?_
   refine yK rfl ?_
   refine aa rfl (cm rfl rfl (by constructor)) ?_
   refine yM rfl rfl ?_
   refine yK rfl ?_
   refine yK rfl ?_
   refine yK rfl ?_
   refine yK rfl ?_
   refine aa rfl (cm rfl rfl (by constructor)) ?_
   refine yM rfl rfl ?_
   refine yK rfl ?_
   refine yK rfl ?_
   refine yK rfl ?_
   refine yK rfl ?_
   refine aa rfl (cm rfl rfl (by constructor)) ?_
   refine yN ?_
   dsimp only [St.put]
   refine ⟨_, ?_, ⟨⟨rfl, rfl⟩, zF, zB, zN, zX⟩⟩
   first
   | (simp [h1]; done)
   | (simp [h1, h2]; done)
   | (simp [h1, h2, h3]; done)
   | (simp [h1, h2, h3]; omega)
  have h1 : ld p.text = false := hs
  refine yF rfl rfl rfl rfl ?_
  refine yL rfl rfl rfl ?_
  refine aa rfl (ba rfl rfl (List.length_map _)) ?_
  refine aa rfl (iu rfl rfl rfl) ?_
  refine aa rfl (ce rfl rfl (by constructor)) ?_
  refine yM rfl rfl ?_
  refine eo (fun hs => ?_) (fun hs => ?_)
  ·have h2 : 6 < p.firsts.length := by have := of_decide_eq_true hs; omega
   refine yK rfl ?_
   refine yK rfl ?_
   refine yK rfl ?_
   refine yK rfl ?_
   refine aa rfl (cm rfl rfl (by constructor)) ?_
   refine yM rfl rfl ?_
   refine yK rfl ?_
   refine yK rfl ?_
   refine yK rfl ?_
   refine yK rfl ?_
   refine aa rfl (cm rfl rfl (by constructor)) ?_
   refine yN ?_
   dsimp only [St.put]
   refine ⟨_, ?_, ⟨⟨rfl, rfl⟩, zF, zB, zN, zX⟩⟩
   first
   | (simp [h1]; done)
   | (simp [h1, h2]; done)
   | (simp [h1, h2, h3]; done)
   | (simp [h1, h2, h3]; omega)
  have h2 : ¬ 6 < p.firsts.length := by have := of_decide_eq_false hs; omega
  refine yF rfl rfl rfl rfl ?_
  refine yL rfl rfl rfl ?_
  refine aa rfl (ba rfl rfl (List.length_map _)) ?_
  refine aa rfl (iu rfl rfl rfl) ?_
  refine aa rfl (ce rfl rfl (by constructor)) ?_
  refine yM rfl rfl ?_
  refine eo (fun hs => ?_) (fun hs => ?_)
  ·have h3 : 6 < p.seconds.length := by have := of_decide_eq_true hs; omega
   refine yK rfl ?_
   refine yK rfl ?_
   refine yK rfl ?_
   refine yK rfl ?_
   refine aa rfl (cm rfl rfl (by constructor)) ?_
   refine yN ?_
   dsimp only [St.put]
   refine ⟨_, ?_, ⟨⟨rfl, rfl⟩, zF, zB, zN, zX⟩⟩
   first
   | (simp [h1]; done)
   | (simp [h1, h2]; done)
   | (simp [h1, h2, h3]; done)
   | (simp [h1, h2, h3]; omega)
  have h3 : ¬ 6 < p.seconds.length := by have := of_decide_eq_false hs; omega
  refine yF rfl rfl rfl rfl ?_
  refine yL rfl rfl rfl ?_
  refine aa rfl (ba rfl rfl (List.length_map _)) ?_
  refine aa rfl (iu rfl rfl rfl) ?_
  refine aa rfl (ce rfl rfl (by constructor)) ?_
  refine yN ?_
  dsimp only [St.put]
  refine ⟨_, ?_, ⟨⟨rfl, rfl⟩, zF, zB, zN, zX⟩⟩
  first
  | (simp [h1]; done)
  | (simp [h1, h2]; done)
  | (simp [h1, h2, h3]; done)
  | (simp [h1, h2, h3]; omega)
 rintro d hst
 dsimp only at hst ⊢
 refine ar rfl (fun hc => ?_) (fun hc => ?_)
 ·rw [hc] at hst
  refine yS fun _ K4 => ?_
  refine yR ?_
  refine yA rfl rfl ?_
  refine yN ?_
  dsimp only [St.put]
  refine K4 _ ?_
  refine aw ?_
  refine bg rfl (by constructor) zN zS ?_
  exact vb (by unfold nl; rw [hst]; rfl)
 rw [hc] at hst
 have hpl : ¬ 12 < p.pages.length := fun h => by rw [decide_eq_true h, Bool.or_true] at hst; cases hst
 refine ax ?_
 refine K2 _ ?_
 refine yS fun _ K5 => ?_
 refine yS fun _ K6 => ?_
 refine yR ?_
 refine yA rfl rfl ?_
 refine yN ?_
 dsimp only [St.put]
 refine K6 _ ?_
 refine az ?_
 refine ck 4 ?_
 refine zQ ?_
 refine c6 (G) zX ?_
 dsimp only
 refine c5 (X := Nat) (fun i => i ≤ p.pages.length ∧ ∀ x ∈ p.pages.take i, kh x = false) (fun i => p.pages.length - i) (fun i => [(3, .v (.int .i64 (i : Int)))]) (fun i G' => G') 0 rfl ?_ ?_ (fun _ _ h => h) ?_ ?_ ?_
 ·exact ⟨Nat.zero_le _, by simp⟩
 ·exact zF
 ·rintro i hI
  exact zL
 ·exact fun _ _ _ _ h => .inl h
 rintro i hI
 dsimp only at hI ⊢
 refine yS fun _ K7 => ?_
 refine yS fun _ K8 => ?_
 refine yR ?_
 refine yM rfl rfl ?_
 refine yF rfl rfl rfl rfl ?_
 refine yL rfl rfl rfl ?_
 refine aa rfl (ba rfl rfl (List.length_map _)) ?_
 refine aa rfl (cj rfl rfl rfl) ?_
 refine yN ?_
 dsimp only [St.put]
 refine K8 _ ?_
 refine ar rfl (fun hc => ?_) (fun hc => ?_)
 ·replace hc := of_decide_eq_true hc
  obtain ⟨x, hx⟩ : ∃ x, p.pages[i]? = some x := da (by omega)
  refine ax ?_
  refine K7 _ ?_
  refine yS fun _ K9 => ?_
  refine az ?_
  refine yS fun _ K10 => ?_
  refine yR ?_
  refine yF rfl rfl rfl rfl ?_
  refine yL rfl rfl rfl ?_
  refine yM rfl rfl ?_
  refine aa rfl (bn rfl rfl rfl rfl (bp (by assumption)) (Enc.len _)) ?_
  refine yF rfl rfl rfl rfl ?_
  refine yL rfl rfl rfl ?_
  refine aa rfl (ba rfl rfl (List.length_map _)) ?_
  refine aa rfl (iu rfl rfl rfl) ?_
  refine yM rfl rfl ?_
  refine eo (fun hs => ?_) (fun hs => ?_)
  ·have g1 : 200 < x.found.length := by have := of_decide_eq_true hs; omega
   refine yK rfl ?_
   refine yK rfl ?_
   refine yK rfl ?_
   refine yK rfl ?_
   refine yK rfl ?_
   refine yK rfl ?_
   refine yK rfl ?_
   refine yK rfl ?_
   refine aa rfl (cm rfl rfl (by constructor)) ?_
   refine yN ?_
   dsimp only [St.put]
   refine K10 _ ?_
   refine ar rfl (fun _ => ?_) (fun h => by cases h)
   have hgx : kh x = true := by
    first
    | (simp [kh, g1]; done)
    | (have g2 : 200 < x.well.length := by (have := of_decide_eq_true hc; omega)
       simp [kh, g2])
   refine yS fun _ K11 => ?_
   refine yR ?_
   refine yA rfl rfl ?_
   refine yN ?_
   dsimp only [St.put]
   refine K11 _ ?_
   refine aw ?_
   refine bg rfl (by constructor) zN zS ?_
   exact vb (by
    have : p.pages.any kh = true := List.any_eq_true.2 ⟨x, fq hx, hgx⟩
    unfold nl; rw [this, Bool.or_true])
  have g1 : ¬ 200 < x.found.length := by have := of_decide_eq_false hs; omega
  refine yF rfl rfl rfl rfl ?_
  refine yL rfl rfl rfl ?_
  refine yM rfl rfl ?_
  refine aa rfl (bn rfl rfl rfl rfl (bp (by assumption)) (Enc.len _)) ?_
  refine yF rfl rfl rfl rfl ?_
  refine yL rfl rfl rfl ?_
  refine aa rfl (ba rfl rfl (List.length_map _)) ?_
  refine aa rfl (iu rfl rfl rfl) ?_
  refine aa rfl (ce rfl rfl (by constructor)) ?_
  refine yN ?_
  dsimp only [St.put]
  refine K10 _ ?_
  refine ar rfl (fun hc => ?_) (fun hc => ?_)
  ·have hgx : kh x = true := by
    first
    | (simp [kh, g1]; done)
    | (have g2 : 200 < x.well.length := by (have := of_decide_eq_true hc; omega)
       simp [kh, g2])
   refine yS fun _ K12 => ?_
   refine yR ?_
   refine yA rfl rfl ?_
   refine yN ?_
   dsimp only [St.put]
   refine K12 _ ?_
   refine aw ?_
   refine bg rfl (by constructor) zN zS ?_
   exact vb (by
    have : p.pages.any kh = true := List.any_eq_true.2 ⟨x, fq hx, hgx⟩
    unfold nl; rw [this, Bool.or_true])
  have hgx : kh x = false := by
   have g2 : ¬ 200 < x.well.length := by (have := of_decide_eq_false hc; omega)
   simp [kh, g1, g2]
  refine ax ?_
  refine K9 _ ?_
  refine yR ?_
  refine yM rfl rfl ?_
  refine aa rfl (bu rfl rfl rfl (by omega)) ?_
  refine yA rfl rfl ?_
  refine yN ?_
  dsimp only [St.put]
  exact ⟨i + 1, by omega, ⟨by omega, yh (p := fun x : av => kh x = false) hx hgx hI.2⟩, ⟨⟨rfl, rfl⟩, zF, zB, zN, zX⟩⟩
 replace hc := of_decide_eq_false hc
 have hall := hI.2
 rw [ff (show p.pages.length ≤ i by omega)] at hall
 refine cw ?_
 refine K5 _ ?_
 refine yS fun _ K13 => ?_
 refine yR ?_
 refine yA rfl rfl ?_
 refine yN ?_
 dsimp only [St.put]
 refine K13 _ ?_
 refine aw ?_
 refine bg rfl (by constructor) zN zS ?_
 exact vb (by
  have : p.pages.any kh = false := List.any_eq_false.2 fun x hx => by rw [hall x hx]; simp
  unfold nl; rw [hst, this]; rfl)
theorem uh2 (p : aq) : Pure Tryd.prog 21 [val p, val p] (.v (.bool true)) := by
 refine cz Tryd.func21 rfl (fun m => .v) fun G nx => ?_
 simp only [Tryd.ntmps21, List.length_cons, List.length_nil, Nat.reduceAdd, Nat.reduceSub]
 refine ci fun hlt => ?_
 dsimp only at hlt
 have hSS : Pure Tryd.prog 46 [fj p.text, fj p.text] (.v (.bool true)) := by
  have := umu p.text p.text
  rwa [decide_eq_true rfl] at this
 have hSP : ∀ l : List PlaceD, Pure Tryd.prog 14 [lst l, lst l] (.v (.bool true)) := fun l => by
  have := umw l l
  rwa [decide_eq_true rfl] at this
 refine kd 0 (fun hfp => ?_)
 have hf1 := (fit_lst.1 (fit_agg.1 hfp (lst p.firsts) (by simp [cells]))).1
 have hf2 := (fit_lst.1 (fit_agg.1 hfp (lst p.seconds) (by simp [cells]))).1
 have hf3 := (fit_lst.1 (fit_agg.1 hfp (lst p.pages) (by simp [cells]))).1
 refine yS fun _ K1 => ?_
 refine yR ?_
 try dsimp only [St.put]
 refine yB rfl rfl rfl ?_
 try dsimp only [St.put]
 refine yB rfl rfl rfl ?_
 refine yA rfl rfl ?_
 refine yN ?_
 dsimp only [St.put]
 refine K1 _ ?_
 refine yS fun _ K2 => ?_
 refine yS fun _ K3 => ?_
 refine yR ?_
 refine yF rfl rfl rfl rfl ?_
 try dsimp only [St.put]
 refine af rfl (c := fj p.text) (jc (cs := cells p) rfl rfl (show 1 ≤ 4 by decide)) ?_
 refine yF rfl rfl rfl rfl ?_
 try dsimp only [St.put]
 refine af rfl (c := fj p.text) (jc (cs := cells p) rfl rfl (show 1 ≤ 4 by decide)) ?_
 try dsimp only [St.put]
 refine aj rfl (bq rfl rfl rfl (hSS) ?_)
 refine aa rfl (ef rfl rfl) ?_
 refine yM rfl rfl ?_
 refine yF rfl rfl rfl rfl ?_
 refine yL rfl rfl rfl ?_
 refine aa rfl (ba rfl rfl (List.length_map _)) ?_
 refine yF rfl rfl rfl rfl ?_
 refine yL rfl rfl rfl ?_
 refine aa rfl (ba rfl rfl (List.length_map _)) ?_
 refine aa rfl (p7 rfl rfl rfl rfl) ?_
 refine aa rfl (ce rfl rfl (by constructor)) ?_
 refine yM rfl rfl ?_
 refine yF rfl rfl rfl rfl ?_
 refine yL rfl rfl rfl ?_
 refine aa rfl (ba rfl rfl (List.length_map _)) ?_
 refine yF rfl rfl rfl rfl ?_
 refine yL rfl rfl rfl ?_
 refine aa rfl (ba rfl rfl (List.length_map _)) ?_
 refine aa rfl (p7 rfl rfl rfl rfl) ?_
 refine aa rfl (ce rfl rfl (by constructor)) ?_
 refine yM rfl rfl ?_
 refine yF rfl rfl rfl rfl ?_
 refine yL rfl rfl rfl ?_
 refine aa rfl (ba rfl rfl (List.length_map _)) ?_
 refine yF rfl rfl rfl rfl ?_
 refine yL rfl rfl rfl ?_
 refine aa rfl (ba rfl rfl (List.length_map _)) ?_
 refine aa rfl (p7 rfl rfl rfl rfl) ?_
 refine aa rfl (ce rfl rfl (by constructor)) ?_
 refine yN ?_
 dsimp only [St.put]
 refine K3 _ ?_
 refine ar rfl (fun hc => ?_) (fun hc => ?_)
 ·try replace hc := of_decide_eq_true hc
  refine yS fun _ K4 => ?_
  refine yR ?_
  refine yA rfl rfl ?_
  refine yN ?_
  dsimp only [St.put]
  refine K4 _ ?_
  refine aw ?_
  refine bg rfl (by constructor) zN zS ?_
  exact absurd hc (by decide)
 try replace hc := of_decide_eq_false hc
 refine ax ?_
 refine K2 _ ?_
 refine yS fun _ K5 => ?_
 refine yS fun _ K6 => ?_
 refine yR ?_
 refine yA rfl rfl ?_
 refine yN ?_
 dsimp only [St.put]
 refine K6 _ ?_
 refine az ?_
 refine ck 10 ?_
 refine zQ ?_
 refine c6 (G) zX ?_
 dsimp only
 refine c5 (X := Nat) (fun i => i ≤ p.firsts.length) (fun i => p.firsts.length - i) (fun i => [(5, .v (.int .i64 (i : Int)))]) (fun i G' => G') 0 rfl ?_ ?_ (fun _ _ h => h) ?_ ?_ ?_
 ·exact Nat.zero_le _
 ·exact zF
 ·rintro i hI
  exact zL
 ·exact fun _ _ _ _ h => .inl h
 rintro i hI
 dsimp only at hI ⊢
 refine yS fun _ K7 => ?_
 refine yS fun _ K8 => ?_
 refine yR ?_
 refine yM rfl rfl ?_
 refine yF rfl rfl rfl rfl ?_
 refine yL rfl rfl rfl ?_
 refine aa rfl (ba rfl rfl (List.length_map _)) ?_
 refine aa rfl (cj rfl rfl rfl) ?_
 refine yN ?_
 dsimp only [St.put]
 refine K8 _ ?_
 refine ar rfl (fun hc => ?_) (fun hc => ?_)
 ·replace hc := of_decide_eq_true hc
  obtain ⟨x, hx⟩ : ∃ x, p.firsts[i]? = some x := da (by omega)
  refine ax ?_
  refine K7 _ ?_
  refine yS fun _ K9 => ?_
  refine az ?_
  refine yS fun _ K10 => ?_
  refine fm [(0, none), (1, none), (2, none), (3, none), (4, none), (5, none), (6, none), (7, none), (8, none), (9, none), (10, none)] (fun i => [].contains i) (fun i => [].contains i) (fun i => [0, 2, 3, 5, 7, 8, 10].contains i) [] (by kernel_rfl) (by kernel_rfl) ?_
  refine ae rfl rfl rfl rfl (bw rfl rfl rfl) ?_
  try dsimp only [St.put]
  refine ah rfl rfl rfl rfl (bf rfl rfl) ?_
  refine xM rfl rfl rfl rfl rfl ?_
  try dsimp only [St.put]
  refine ae rfl rfl rfl rfl (bn rfl rfl rfl rfl (bp (by assumption)) (Enc.len _)) ?_
  try dsimp only [St.put]
  refine ah rfl rfl rfl rfl (bv rfl rfl (Enc.len _)) ?_
  refine ae rfl rfl rfl rfl (bw rfl rfl rfl) ?_
  try dsimp only [St.put]
  refine ah rfl rfl rfl rfl (bf rfl rfl) ?_
  refine xM rfl rfl rfl rfl rfl ?_
  try dsimp only [St.put]
  refine ae rfl rfl rfl rfl (bn rfl rfl rfl rfl (bp (by assumption)) (Enc.len _)) ?_
  try dsimp only [St.put]
  refine ah rfl rfl rfl rfl (bv rfl rfl (Enc.len _)) ?_
  refine ae rfl rfl rfl rfl (yf rfl rfl rfl) ?_
  refine cc ?_
  dsimp only [St.put]
  refine K10 _ ?_
  refine ar rfl (fun hc => ?_) (fun hc => ?_)
  ·have hF : False := ka hc rfl
   refine yS fun _ K11 => ?_
   refine yR ?_
   refine yA rfl rfl ?_
   refine yN ?_
   dsimp only [St.put]
   refine K11 _ ?_
   refine aw ?_
   refine bg rfl (by constructor) zN zS ?_
   exact hF.elim
  try replace hc := of_decide_eq_false hc
  refine ax ?_
  refine K9 _ ?_
  refine yR ?_
  refine yM rfl rfl ?_
  refine aa rfl (bu rfl rfl rfl (by omega)) ?_
  refine yA rfl rfl ?_
  refine yN ?_
  dsimp only [St.put]
  exact ⟨i + 1, by omega, by omega, ⟨⟨rfl, rfl⟩, zF, zB, zN, zX⟩⟩
 try replace hc := of_decide_eq_false hc
 refine cw ?_
 refine K5 _ ?_
 refine yS fun _ K12 => ?_
 refine yS fun _ K13 => ?_
 refine yR ?_
 refine yA rfl rfl ?_
 refine yN ?_
 dsimp only [St.put]
 refine K13 _ ?_
 refine az ?_
 refine ck 10 ?_
 refine zQ ?_
 refine c6 (G) zX ?_
 dsimp only
 refine c5 (X := Nat) (fun i => i ≤ p.seconds.length) (fun i => p.seconds.length - i) (fun i => [(6, .v (.int .i64 (i : Int)))]) (fun i G' => G') 0 rfl ?_ ?_ (fun _ _ h => h) ?_ ?_ ?_
 ·exact Nat.zero_le _
 ·exact zF
 ·rintro i hI
  exact zL
 ·exact fun _ _ _ _ h => .inl h
 rintro i hI
 dsimp only at hI ⊢
 refine yS fun _ K14 => ?_
 refine yS fun _ K15 => ?_
 refine yR ?_
 refine yM rfl rfl ?_
 refine yF rfl rfl rfl rfl ?_
 refine yL rfl rfl rfl ?_
 refine aa rfl (ba rfl rfl (List.length_map _)) ?_
 refine aa rfl (cj rfl rfl rfl) ?_
 refine yN ?_
 dsimp only [St.put]
 refine K15 _ ?_
 refine ar rfl (fun hc => ?_) (fun hc => ?_)
 ·replace hc := of_decide_eq_true hc
  obtain ⟨x, hx⟩ : ∃ x, p.seconds[i]? = some x := da (by omega)
  refine ax ?_
  refine K14 _ ?_
  refine yS fun _ K16 => ?_
  refine az ?_
  refine yS fun _ K17 => ?_
  refine fm [(0, none), (1, none), (2, none), (3, none), (4, none), (5, none), (6, none), (7, none), (8, none), (9, none), (10, none)] (fun i => [].contains i) (fun i => [].contains i) (fun i => [0, 2, 3, 5, 7, 8, 10].contains i) [] (by kernel_rfl) (by kernel_rfl) ?_
  refine ae rfl rfl rfl rfl (bw rfl rfl rfl) ?_
  try dsimp only [St.put]
  refine ah rfl rfl rfl rfl (bf rfl rfl) ?_
  refine xM rfl rfl rfl rfl rfl ?_
  try dsimp only [St.put]
  refine ae rfl rfl rfl rfl (bn rfl rfl rfl rfl (bp (by assumption)) (Enc.len _)) ?_
  try dsimp only [St.put]
  refine ah rfl rfl rfl rfl (bv rfl rfl (Enc.len _)) ?_
  refine ae rfl rfl rfl rfl (bw rfl rfl rfl) ?_
  try dsimp only [St.put]
  refine ah rfl rfl rfl rfl (bf rfl rfl) ?_
  refine xM rfl rfl rfl rfl rfl ?_
  try dsimp only [St.put]
  refine ae rfl rfl rfl rfl (bn rfl rfl rfl rfl (bp (by assumption)) (Enc.len _)) ?_
  try dsimp only [St.put]
  refine ah rfl rfl rfl rfl (bv rfl rfl (Enc.len _)) ?_
  refine ae rfl rfl rfl rfl (yf rfl rfl rfl) ?_
  refine cc ?_
  dsimp only [St.put]
  refine K17 _ ?_
  refine ar rfl (fun hc => ?_) (fun hc => ?_)
  ·have hF : False := ka hc rfl
   refine yS fun _ K18 => ?_
   refine yR ?_
   refine yA rfl rfl ?_
   refine yN ?_
   dsimp only [St.put]
   refine K18 _ ?_
   refine aw ?_
   refine bg rfl (by constructor) zN zS ?_
   exact hF.elim
  try replace hc := of_decide_eq_false hc
  refine ax ?_
  refine K16 _ ?_
  refine yR ?_
  refine yM rfl rfl ?_
  refine aa rfl (bu rfl rfl rfl (by omega)) ?_
  refine yA rfl rfl ?_
  refine yN ?_
  dsimp only [St.put]
  exact ⟨i + 1, by omega, by omega, ⟨⟨rfl, rfl⟩, zF, zB, zN, zX⟩⟩
 try replace hc := of_decide_eq_false hc
 refine cw ?_
 refine K12 _ ?_
 refine yS fun _ K19 => ?_
 refine yS fun _ K20 => ?_
 refine yR ?_
 refine yA rfl rfl ?_
 refine yN ?_
 dsimp only [St.put]
 refine K20 _ ?_
 refine az ?_
 refine ck 10 ?_
 refine zQ ?_
 refine c6 (G) zX ?_
 dsimp only
 refine c5 (X := Nat) (fun i => i ≤ p.pages.length) (fun i => p.pages.length - i) (fun i => [(7, .v (.int .i64 (i : Int))), (8, .any), (9, .any)]) (fun i G' => G') 0 rfl ?_ ?_ (fun _ _ h => h) ?_ ?_ ?_
 ·exact Nat.zero_le _
 ·exact zF
 ·rintro i hI
  exact zL
 ·exact fun _ _ _ _ h => .inl h
 rintro i hI
 dsimp only at hI ⊢
 refine yS fun _ K21 => ?_
 refine yS fun _ K22 => ?_
 refine yR ?_
 refine yM rfl rfl ?_
 refine yF rfl rfl rfl rfl ?_
 refine yL rfl rfl rfl ?_
 refine aa rfl (ba rfl rfl (List.length_map _)) ?_
 refine aa rfl (cj rfl rfl rfl) ?_
 refine yN ?_
 dsimp only [St.put]
 refine K22 _ ?_
 refine ar rfl (fun hc => ?_) (fun hc => ?_)
 ·replace hc := of_decide_eq_true hc
  obtain ⟨x, hx⟩ : ∃ x, p.pages[i]? = some x := da (by omega)
  refine ax ?_
  refine K21 _ ?_
  refine yS fun _ K23 => ?_
  refine az ?_
  refine yS fun _ K24 => ?_
  refine fm [(0, none), (1, none), (2, none), (3, none), (4, none), (5, none), (6, none), (7, none), (8, none), (9, none), (10, some 11), (12, none), (13, none)] (fun i => [13].contains i) (fun i => [10, 11, 12, 13].contains i) (fun i => [0, 2, 3, 5, 7, 8].contains i) [] (by kernel_rfl) (by kernel_rfl) ?_
  refine ae rfl rfl rfl rfl (bw rfl rfl rfl) ?_
  try dsimp only [St.put]
  refine ah rfl rfl rfl rfl (bf rfl rfl) ?_
  refine xM rfl rfl rfl rfl rfl ?_
  try dsimp only [St.put]
  refine ae rfl rfl rfl rfl (bn rfl rfl rfl rfl (bp (by assumption)) (Enc.len _)) ?_
  try dsimp only [St.put]
  refine ah rfl rfl rfl rfl (bv rfl rfl (Enc.len _)) ?_
  refine ae rfl rfl rfl rfl (bw rfl rfl rfl) ?_
  try dsimp only [St.put]
  refine ah rfl rfl rfl rfl (bf rfl rfl) ?_
  refine xM rfl rfl rfl rfl rfl ?_
  try dsimp only [St.put]
  refine ae rfl rfl rfl rfl (bn rfl rfl rfl rfl (bp (by assumption)) (Enc.len _)) ?_
  try dsimp only [St.put]
  refine ah rfl rfl rfl rfl (bv rfl rfl (Enc.len _)) ?_
  refine il ?_
  refine ue8 rfl rfl rfl rfl rfl rfl rfl rfl (by decide) (by simp) ?_
  try dsimp only [St.put]
  refine ib rfl rfl rfl (dj rfl rfl rfl zG rfl rfl (by rfl) ⟨zD, ?_⟩)
  try dsimp only [St.put]
  refine fy rfl rfl rfl rfl (dj rfl rfl rfl zG rfl rfl (by rfl) ?_)
  refine ij ?_
  dsimp only [St.put]
  refine K24 _ ?_
  refine gt (i := 8) rfl zG zC ?_
  refine gt (i := 9) rfl zG zC ?_
  dsimp only
  refine yS fun _ K25 => ?_
  refine yR ?_
  refine yF rfl rfl rfl rfl ?_
  refine yL rfl rfl rfl ?_
  refine yF rfl rfl rfl rfl ?_
  refine yL rfl rfl rfl ?_
  refine aa rfl (p7 rfl rfl rfl rfl) ?_
  refine yM rfl rfl ?_
  refine yF rfl rfl rfl rfl ?_
  refine yL rfl rfl rfl ?_
  refine yF rfl rfl rfl rfl ?_
  refine yL rfl rfl rfl ?_
  refine aa rfl (p7 rfl rfl rfl rfl) ?_
  refine aa rfl (ce rfl rfl (by constructor)) ?_
  refine yM rfl rfl ?_
  refine yF rfl rfl rfl rfl ?_
  refine yL rfl rfl rfl ?_
  refine yF rfl rfl rfl rfl ?_
  refine yL rfl rfl rfl ?_
  refine aa rfl (p7 rfl rfl rfl rfl) ?_
  refine aa rfl (ce rfl rfl (by constructor)) ?_
  refine yM rfl rfl ?_
  refine yF rfl rfl rfl rfl ?_
  refine yL rfl rfl rfl ?_
  refine yF rfl rfl rfl rfl ?_
  refine yL rfl rfl rfl ?_
  refine aa rfl (p7 rfl rfl rfl rfl) ?_
  refine aa rfl (ce rfl rfl (by constructor)) ?_
  refine yM rfl rfl ?_
  refine yF rfl rfl rfl rfl ?_
  refine yL rfl rfl rfl ?_
  refine yF rfl rfl rfl rfl ?_
  refine yL rfl rfl rfl ?_
  try dsimp only [St.put]
  refine aj rfl (bq rfl rfl rfl (hSP _) ?_)
  refine aa rfl (ef rfl rfl) ?_
  refine aa rfl (ce rfl rfl (by constructor)) ?_
  refine yM rfl rfl ?_
  refine yF rfl rfl rfl rfl ?_
  refine yL rfl rfl rfl ?_
  refine yF rfl rfl rfl rfl ?_
  refine yL rfl rfl rfl ?_
  try dsimp only [St.put]
  refine aj rfl (bq rfl rfl rfl (hSP _) ?_)
  refine aa rfl (ef rfl rfl) ?_
  refine aa rfl (ce rfl rfl (by constructor)) ?_
  refine yN ?_
  dsimp only [St.put]
  refine K25 _ ?_
  refine ar rfl (fun hc => ?_) (fun hc => ?_)
  ·try replace hc := of_decide_eq_true hc
   refine yS fun _ K26 => ?_
   refine yR ?_
   refine yA rfl rfl ?_
   refine yN ?_
   dsimp only [St.put]
   refine K26 _ ?_
   refine aw ?_
   refine bg rfl (by constructor) zN zS ?_
   exact absurd hc (by decide)
  try replace hc := of_decide_eq_false hc
  refine ax ?_
  refine K23 _ ?_
  refine yR ?_
  refine yM rfl rfl ?_
  refine aa rfl (bu rfl rfl rfl (by omega)) ?_
  refine yA rfl rfl ?_
  refine yN ?_
  dsimp only [St.put]
  exact ⟨i + 1, by omega, by omega, ⟨⟨rfl, rfl⟩, zF, zB, zN, zX⟩⟩
 try replace hc := of_decide_eq_false hc
 refine cw ?_
 refine K19 _ ?_
 refine yS fun _ K27 => ?_
 refine yR ?_
 refine yA rfl rfl ?_
 refine yN ?_
 dsimp only [St.put]
 refine K27 _ ?_
 refine aw ?_
 refine bg rfl (by constructor) zN zS ?_
 rfl
end Go.Proofs.YtgffhbbcpgdjjaaDoor
namespace Go.AB
open Go Go.RowKit
open Go.AB.Enc (cells)
open Go.PB (ay ak PlaceD bi bk bj bz av aq cy cx dp dm)
theorem uck {α β : Type} {l : List α} {k : Nat} {x : α} (f : α → β) (h : l[k]? = some x) : (l.map f)[k]? = some (f x) := by rw [List.getElem?_map, h]; rfl
end Go.AB
namespace Go.Proofs.YtgffhbbcpgdjjaaDoor
set_option maxRecDepth 10000
open Go Go.RowKit Go.AB
open Go.AB.Enc (cells)
open Go.PB (ay ak PlaceD bi bk bj bz av aq cy cx dp dm)
end Go.Proofs.YtgffhbbcpgdjjaaDoor
namespace Go.AB
open Go Go.RowKit
open Go.AB.Enc (cells)
open Go.PB (ay ak PlaceD bi bk bj bz av aq cy cx dp dm)
/-- who has read a page, of some sides -/
def o7 (p : aq) (x : av) : Nat → List Int
 | 0 => []
 | k + 1 => o7 p x k ++ bif decide (0 ≤ et (decide (k = 1)) x) then [(sdN p k : Int) + et (decide (k = 1)) x] else []
theorem uhp (p : aq) (x : av) : o7 p x 2 = di p x := by
 show ([] ++ bif decide (0 ≤ x.fst) then [((0 : Nat) : Int) + x.fst] else []) ++ (bif decide (0 ≤ x.snd) then [(p.firsts.length : Int) + x.snd] else []) = di p x
 rw [List.nil_append, show ((0 : Nat) : Int) + x.fst = x.fst by omega]
 rfl
theorem ubd (p : aq) (x : av) : ∀ k, (o7 p x k).length ≤ k
 | 0 => Nat.le_refl _
 | k + 1 => by
  have := ubd p x k
  simp only [o7, List.length_append]
  cases decide (0 ≤ et (decide (k = 1)) x)
  ·rw [cond_false]; simp; omega
  rw [cond_true]; simp; omega
theorem uju {α β : Type} {l : List α} {j : Nat} {x : α} (f : α → β) (h : l[j]? = some x) : (l.take (j + 1)).map f = (l.take j).map f ++ [f x] := by rw [List.take_add_one, h, Option.toList_some, List.map_append]; rfl
theorem uj8 {p : aq} : (!(bh (bl p) (dh p)).any fun n => decide (n < 0)) = iz p := by
 rw [Bool.eq_iff_iff, Bool.not_eq_true', ← Bool.not_eq_true, List.any_eq_true]
 unfold iz bh
 rw [List.all_eq_true]
 constructor
 ·intro h i hi
  refine decide_eq_true ?_
  rcases Int.lt_or_le (dh p i) 0 with q | q
  ·exact absurd ⟨_, List.mem_map.2 ⟨i, hi, rfl⟩, decide_eq_true q⟩ h
  exact q
 rintro h ⟨z, hz, hl⟩
 obtain ⟨i, hi, rfl⟩ := List.mem_map.1 hz
 have := of_decide_eq_true (h i hi)
 have := of_decide_eq_true hl
 omega
end Go.AB
namespace Go.Proofs.YtgffhbbcpgdjjaaDoor
set_option maxRecDepth 10000
open Go Go.RowKit Go.AB
open Go.AB.Enc (cells)
open Go.PB (ay ak PlaceD bi bk bj bz av aq cy cx dp dm)
theorem uhe (z : Int) : Pure Tryd.prog 99 [.v (.int .i64 z)] (.v (.bool (decide (z < 0)))) := by
 refine cz Tryd.func99 rfl (fun m => .v) fun G nx => ?_
 simp only [Tryd.ntmps99, List.length_cons, List.length_nil, Nat.reduceAdd, Nat.reduceSub]
 refine ci fun hlt => ?_
 dsimp only at hlt
 refine yS fun _ K1 => ?_
 refine yR ?_
 refine yA rfl rfl ?_
 refine yN ?_
 dsimp only [St.put]
 refine K1 _ ?_
 refine yS fun _ K2 => ?_
 refine yR ?_
 refine yM rfl rfl ?_
 refine aa rfl (cj rfl rfl rfl) ?_
 refine yA rfl rfl ?_
 refine yN ?_
 dsimp only [St.put]
 refine K2 _ ?_
 refine aw ?_
 refine bg rfl (by constructor) zN zS ?_
 rfl
theorem uj5 (p : aq) : Pure Tryd.prog 98 [.elem (lm p)] (.fn (.func 110) [.elem [.elem (lm p)]]) := by
 refine cz Tryd.func98 rfl (fun m => (.fn (dd (.elem (dd (.elem (dd (cg _ _) (dd (cg _ _) (dd (cg _ _) (dd (cg _ _) (dd (cg _ _) (dd (cg _ _) (dd (cg _ _) eg)))))))) eg)) eg))) fun G nx => ?_
 simp only [Tryd.ntmps98, List.length_cons, List.length_nil, Nat.reduceAdd, Nat.reduceSub]
 refine ci fun hlt => ?_
 dsimp only at hlt
 refine yS fun _ K1 => ?_
 refine yR ?_
 try dsimp only [St.put]
 refine yB rfl rfl rfl ?_
 refine yA rfl rfl ?_
 refine yN ?_
 dsimp only [St.put]
 refine K1 _ ?_
 refine yS fun _ K2 => ?_
 refine yR ?_
 refine aa rfl (qr rfl rfl) ?_
 refine yA rfl rfl ?_
 refine yN ?_
 dsimp only [St.put]
 refine K2 _ ?_
 refine aw ?_
 refine bg rfl (by constructor) zN zS ?_
 rfl
set_option maxHeartbeats 2000000 in
theorem uin (n : Nat) (p : aq) (h : f5 p) : n3 n m8 Tryd.prog 78 [.elem (lm p)] (.tup [val (ie p (dh p) (dx p)), .v (.bool (iz p))]) := fun G nx hF hnx => by
 refine oe (G) (nx) Tryd.func78 rfl (.tup (dd (fa _ _) (dd .v eg))) zN (fun hlt => zH) ?_
 simp only [Tryd.ntmps78, List.length_cons, List.length_nil, Nat.reduceAdd, Nat.reduceSub]
 refine ci fun hlt => ?_
 dsimp only at hlt
 have hn1 := h.nf
 have hn2 := h.ns
 have hnp := h.np
 have hnr : bl p = p.firsts.length + p.seconds.length := rfl
 have hal := n1 h.text
 refine yS fun _ K1 => ?_
 refine yR ?_
 try dsimp only [St.put]
 refine aj rfl (eb rfl ?_)
 refine yA rfl rfl ?_
 refine yN ?_
 dsimp only [St.put]
 refine K1 _ ?_
 refine yS fun _ K2 => ?_
 refine yR ?_
 try dsimp only [St.put]
 refine aj rfl (eb rfl ?_)
 refine yN ?_
 dsimp only [St.put]
 refine K2 _ ?_
 refine nz (nx + 1) 0 _ _ 3 1 zG rfl (by decide) ?_
 refine nz (nx + 1) 1 _ _ 3 1 zG rfl (by decide) ?_
 refine nz (nx + 1) 2 _ _ 57 1 zG rfl (by decide) ?_
 dsimp only [List.set_cons_zero, List.set_cons_succ]
 refine yS fun _ K3 => ?_
 refine yS fun _ K4 => ?_
 refine yR ?_
 refine yM rfl rfl ?_
 try dsimp only [St.put]
 refine aj rfl (bq rfl rfl rfl (uj5 p) ?_)
 refine yN ?_
 dsimp only [St.put]
 refine K4 _ ?_
 refine az ?_
 refine ck 15 ?_
 refine zQ ?_
 refine c6 ((ai (ai (ai (ai (ai G nx (.box 0 [.list [] .nil, .list [] .nil, .list [] .nil])) (nx + 1) (.box (0) [.list ((bh 0 (dh p)).map cells) (.tip (nx + 1 + 1)), .list ((bh 0 (dx p)).map cells) (.tip (nx + 1 + 1 + 1)), .list (((p.pages.take 0).map (di p)).map cells) (.tip (nx + 1 + 1 + 1 + 1))])) (nx + 1 + 1) (.tip (bh 0 (dh p)).length 3 1)) (nx + 1 + 1 + 1) (.tip (bh 0 (dx p)).length 3 1)) (nx + 1 + 1 + 1 + 1) (.tip ((p.pages.take 0).map (di p)).length 57 1))) zX ?_
 dsimp only
 refine ueo [15] (fun k => (ai (ai (ai (ai (ai G nx (.box 0 [.list [] .nil, .list [] .nil, .list [] .nil])) (nx + 1) (.box (k) [.list ((bh k (dh p)).map cells) (.tip (nx + 1 + 1)), .list ((bh 0 (dx p)).map cells) (.tip (nx + 1 + 1 + 1)), .list (((p.pages.take 0).map (di p)).map cells) (.tip (nx + 1 + 1 + 1 + 1))])) (nx + 1 + 1) (.tip (bh k (dh p)).length 3 1)) (nx + 1 + 1 + 1) (.tip (bh 0 (dx p)).length 3 1)) (nx + 1 + 1 + 1 + 1) (.tip ((p.pages.take 0).map (di p)).length 57 1))) (fun k => [(15, .v (.int .i64 (dh p k)))]) (uj6 n p h) (fun k => zG) (by (try dsimp only); omega) rfl rfl (fun _ => rfl) ?_ ?_ ?_ (fun lr k hrk => ?_) ?_
 ·intro k
  rfl
 ·exact zX
 ·intro k
  exact zH
 ·have hll := im k (dh p)
  refine yR ?_
  refine yA rfl rfl ?_
  refine yN ?_
  dsimp only [St.put]
  show AW _ _ _ _ _
  refine az ?_
  refine yR ?_
  refine aa rfl (cv rfl rfl) ?_
  try dsimp only [St.put]
  refine af rfl (c7 rfl rfl zG trivial (by first | rfl | assumption)) ?_
  refine yM rfl rfl ?_
  try dsimp only [St.put]
  refine aj rfl (fh rfl rfl rfl (by decide) (by decide) zR (by decide) ?_)
  try dsimp only [St.put]
  refine aj rfl (jh ([dh p k]) rfl rfl zG zE rfl rfl zA ?_ zA)
  refine aa rfl (cv rfl rfl) ?_
  try dsimp only [St.put]
  refine aj rfl (ja rfl rfl rfl zG (by constructor) rfl zO ?_)
  refine yN ?_
  dsimp only [St.put]
  rw [← ud k (dh p)]
  exact zX
 dsimp only
 refine K3 _ ?_
 refine yS fun _ K5 => ?_
 refine yS fun _ K6 => ?_
 refine yR ?_
 refine yM rfl rfl ?_
 refine aa rfl (og rfl rfl) ?_
 refine yF rfl rfl rfl rfl ?_
 refine yF rfl rfl rfl rfl ?_
 refine yL rfl rfl rfl ?_
 refine aa rfl (ba rfl rfl (List.length_map _)) ?_
 refine yM rfl rfl ?_
 refine yN ?_
 dsimp only [St.put]
 refine K6 _ ?_
 refine az ?_
 refine ck 29 ?_
 refine zQ ?_
 refine c6 ((ai (ai (ai (ai (ai G nx (.box 0 [.list [] .nil, .list [] .nil, .list [] .nil])) (nx + 1) (.box ((bl p)) [.list ((bh (bl p) (dh p)).map cells) (.tip (nx + 1 + 1)), .list ((bh 0 (dx p)).map cells) (.tip (nx + 1 + 1 + 1)), .list (((p.pages.take 0).map (di p)).map cells) (.tip (nx + 1 + 1 + 1 + 1))])) (nx + 1 + 1) (.tip (bh (bl p) (dh p)).length 3 1)) (nx + 1 + 1 + 1) (.tip (bh 0 (dx p)).length 3 1)) (nx + 1 + 1 + 1 + 1) (.tip ((p.pages.take 0).map (di p)).length 57 1))) zX ?_
 dsimp only
 refine c5 (X := Nat) (fun j => j ≤ p.pages.length) (fun j => p.pages.length - j) (fun j => [(6, .any), (7, .any), (8, .any), (9, .any), (10, .any), (11, .any), (12, .any), (28, .v (.int .i64 (j : Int)))]) (fun j G' => (ai (ai (ai (ai (ai G nx (.box 0 [.list [] .nil, .list [] .nil, .list [] .nil])) (nx + 1) (.box ((bl p + 2 * j)) [.list ((bh (bl p) (dh p)).map cells) (.tip (nx + 1 + 1)), .list ((bh j (dx p)).map cells) (.tip (nx + 1 + 1 + 1)), .list (((p.pages.take j).map (di p)).map cells) (.tip (nx + 1 + 1 + 1 + 1))])) (nx + 1 + 1) (.tip (bh (bl p) (dh p)).length 3 1)) (nx + 1 + 1 + 1) (.tip (bh j (dx p)).length 3 1)) (nx + 1 + 1 + 1 + 1) (.tip ((p.pages.take j).map (di p)).length 57 1))) 0 rfl ?_ ?_ ?_ ?_ ?_ ?_
 ·exact Nat.zero_le _
 ·exact zF
 ·exact zX
 ·rintro j hI
  exact zL
 ·rintro j hI
  exact zH
 rintro j hJ
 dsimp only at hJ ⊢
 refine yS fun _ K7 => ?_
 refine yR ?_
 refine aa rfl (cj rfl rfl rfl) ?_
 refine yN ?_
 dsimp only [St.put]
 refine K7 _ ?_
 refine yS fun _ K8 => ?_
 refine ar rfl (fun hc => ?_) (fun hc => ?_)
 ·replace hc := of_decide_eq_true hc
  obtain ⟨x, hx⟩ : ∃ x, p.pages[j]? = some x := da (by omega)
  have hw1 : (p.pages.map fun x => (f8 p.text x : Int))[j]? = some (f8 p.text x : Int) := uck (fun x => (f8 p.text x : Int)) hx
  have hw2 := uck (ei p.text) hx
  have hgl := rb p.text x
  have hwx := ua p.text x
  have hll := im j (dx p)
  have hp := pageB_true.1 (h.page j x hx)
  have hp1 := hp.fst
  have hp2 := hp.snd
  have hll2 : ((p.pages.take j).map (di p)).length ≤ 8 := by rw [List.length_map, List.length_take]; omega
  refine ax ?_
  refine K8 _ ?_
  refine yS fun _ K9 => ?_
  refine az ?_
  refine yS fun _ K10 => ?_
  refine yR ?_
  refine yM rfl rfl ?_
  refine aa rfl (bn rfl rfl rfl rfl (bp (by assumption)) (Enc.len _)) ?_
  refine yE rfl rfl rfl ?_
  try dsimp only [St.put]
  refine aj rfl (eb rfl ?_)
  refine yA rfl rfl ?_
  try dsimp only [St.put]
  refine aj rfl (dj rfl rfl rfl zG rfl rfl (by rfl) ?_)
  refine yN ?_
  dsimp only [St.put]
  refine K10 _ ?_
  refine gt (i := 7) rfl zG zC ?_
  dsimp only
  refine yS fun _ K11 => ?_
  refine fm [(0, none), (1, none), (2, none), (3, none), (4, none), (5, none), (6, none), (7, none), (8, none), (9, none), (10, none), (11, none), (12, none), (13, none), (14, none), (15, none), (16, none), (17, none), (18, none), (19, none), (20, none), (21, none)] (fun i => [19, 21].contains i) (fun i => [18, 19, 21].contains i) (fun i => [0, 2, 3, 4, 6, 7, 9, 10, 11, 13, 14, 16, 17, 20].contains i) [nx + 1] (by kernel_rfl) (by kernel_rfl) ?_
  refine ae rfl rfl rfl rfl (cv rfl rfl) ?_
  try dsimp only [St.put]
  refine ah rfl rfl rfl rfl (c7 rfl rfl zG (by simp) (by first | rfl | assumption)) ?_
  refine xM rfl rfl rfl rfl rfl ?_
  refine ae rfl rfl rfl rfl (og rfl rfl) ?_
  refine ae rfl rfl rfl rfl (bw rfl rfl rfl) ?_
  try dsimp only [St.put]
  refine ah rfl rfl rfl rfl (bf rfl rfl) ?_
  refine xM rfl rfl rfl rfl rfl ?_
  try dsimp only [St.put]
  refine ae rfl rfl rfl rfl (bn rfl rfl rfl rfl (bp (by assumption)) (Enc.len _)) ?_
  try dsimp only [St.put]
  refine ah rfl rfl rfl rfl (bf rfl rfl) ?_
  refine xM rfl rfl rfl rfl rfl ?_
  refine ae rfl rfl rfl rfl (og rfl rfl) ?_
  refine ae rfl rfl rfl rfl (bw rfl rfl rfl) ?_
  try dsimp only [St.put]
  refine ah rfl rfl rfl rfl (bf rfl rfl) ?_
  refine xM rfl rfl rfl rfl rfl ?_
  try dsimp only [St.put]
  refine ae rfl rfl rfl rfl (bn rfl rfl rfl rfl (bp (by assumption)) (Enc.len _)) ?_
  try dsimp only [St.put]
  refine ah rfl rfl rfl rfl (bf rfl rfl) ?_
  refine ae rfl rfl rfl rfl (ba rfl rfl (List.length_map _)) ?_
  refine ae rfl rfl rfl rfl (io rfl rfl rfl (by omega)) ?_
  refine il ?_
  try dsimp only [St.put]
  refine ib rfl rfl rfl (fh rfl rfl rfl (by decide) (by decide) zR (by decide) ⟨zD, ?_⟩)
  try dsimp only [St.put]
  refine fy rfl rfl rfl rfl (jh ([(f8 p.text x : Int) - ((ei p.text x).length : Int)]) rfl rfl zG zE rfl rfl zA ?_ zA)
  refine ep rfl rfl rfl rfl (cv rfl rfl) ?_
  try dsimp only [St.put]
  refine fy rfl rfl rfl rfl (ja rfl rfl rfl zG (by constructor) rfl zO ?_)
  refine ij ?_
  dsimp only [St.put]
  have e := ud j (dx p)
  rw [show dx p j = (f8 p.text x : Int) - ((ei p.text x).length : Int) from ubr hx _] at e
  simp only [← e]
  refine K11 _ ?_
  refine yS fun _ K12 => ?_
  refine yR ?_
  refine yA rfl rfl ?_
  refine yN ?_
  dsimp only [St.put]
  refine K12 _ ?_
  refine pp 8 3 1 rfl (by decide) ?_
  dsimp only [List.set_cons_zero, List.set_cons_succ]
  refine yS fun _ K13 => ?_
  refine yR ?_
  refine yA rfl rfl ?_
  refine yN ?_
  dsimp only [St.put]
  refine K13 _ ?_
  refine yS fun _ K14 => ?_
  refine yS fun _ K15 => ?_
  refine yR ?_
  try dsimp only [St.put]
  refine af rfl (el (n := 6) (m := n) rfl rfl zG rfl) ?_
  refine yM rfl rfl ?_
  refine yN ?_
  dsimp only [St.put]
  refine K15 _ ?_
  refine az ?_
  refine ck 56 ?_
  refine zQ ?_
  refine c6 (ai ((ai (ai (ai (ai (ai G nx (.box 0 [.list [] .nil, .list [] .nil, .list [] .nil])) (nx + 1) (.box ((bl p + 2 * j + 1)) [.list ((bh (bl p) (dh p)).map cells) (.tip (nx + 1 + 1)), .list ((bh (j + 1) (dx p)).map cells) (.tip (nx + 1 + 1 + 1)), .list (((p.pages.take j).map (di p)).map cells) (.tip (nx + 1 + 1 + 1 + 1))])) (nx + 1 + 1) (.tip (bh (bl p) (dh p)).length 3 1)) (nx + 1 + 1 + 1) (.tip (bh (j + 1) (dx p)).length 3 1)) (nx + 1 + 1 + 1 + 1) (.tip ((p.pages.take j).map (di p)).length 57 1))) (nx + 1 + 1 + 1 + 1 + 1 + 1) (.tip 0 3 1)) zX ?_
  dsimp only
  refine c5 (X := Nat) (fun k => k ≤ 2) (fun k => 2 - k) (fun k => [(8, .list ((o7 p x k).map cells) (.tip (nx + 1 + 1 + 1 + 1 + 1 + 1))), (9, .v (.int .i64 (sdN p k : Int))), (11, .any), (12, .any), (55, .v (.int .i64 (k : Int)))]) (fun k G' => ai ((ai (ai (ai (ai (ai G nx (.box 0 [.list [] .nil, .list [] .nil, .list [] .nil])) (nx + 1) (.box ((bl p + 2 * j + 1)) [.list ((bh (bl p) (dh p)).map cells) (.tip (nx + 1 + 1)), .list ((bh (j + 1) (dx p)).map cells) (.tip (nx + 1 + 1 + 1)), .list (((p.pages.take j).map (di p)).map cells) (.tip (nx + 1 + 1 + 1 + 1))])) (nx + 1 + 1) (.tip (bh (bl p) (dh p)).length 3 1)) (nx + 1 + 1 + 1) (.tip (bh (j + 1) (dx p)).length 3 1)) (nx + 1 + 1 + 1 + 1) (.tip ((p.pages.take j).map (di p)).length 57 1))) (nx + 1 + 1 + 1 + 1 + 1 + 1) (.tip (o7 p x k).length 3 1)) 0 rfl ?_ ?_ ?_ ?_ ?_ ?_
  ·exact Nat.zero_le _
  ·exact zF
  ·exact zX
  ·rintro k hI
   exact zL
  ·rintro k hI
   exact zH
  rintro k hK
  dsimp only at hK ⊢
  refine yS fun _ K16 => ?_
  refine yR ?_
  refine aa rfl (cj rfl rfl rfl) ?_
  refine yN ?_
  dsimp only [St.put]
  refine K16 _ ?_
  refine yS fun _ K17 => ?_
  refine ar rfl (fun hc => ?_) (fun hc => ?_)
  ·replace hc := of_decide_eq_true hc
   have hk : k < 2 := by omega
   have hsd : sdN p k ≤ 3 ∧ (eh p (decide (k = 1))).length ≤ 3 ∧ -1 ≤ et (decide (k = 1)) x ∧ et (decide (k = 1)) x ≤ 3 := by
    have : k = 0 ∨ k = 1 := by omega
    rcases this with rfl | rfl
    ·exact ⟨Nat.zero_le _, hn1, by show -1 ≤ x.fst; omega, by show x.fst ≤ 3; omega⟩
    exact ⟨hn1, hn2, by show -1 ≤ x.snd; omega, by show x.snd ≤ 3; omega⟩
   have hst : o7 p x (k + 1) = o7 p x k ++ bif decide (0 ≤ et (decide (k = 1)) x) then [(sdN p k : Int) + et (decide (k = 1)) x] else [] := rfl
   have hrl := ubd p x k
   refine ax ?_
   refine K17 _ ?_
   refine yS fun _ K18 => ?_
   refine az ?_
   refine yS fun _ K19 => ?_
   refine yR ?_
   refine aa rfl (ve (k := k) (m := 2) (sz := 3) rfl rfl rfl rfl hk (uj hk)) ?_
   try dsimp only [St.put]
   refine aj rfl (eb rfl ?_)
   try dsimp only [St.put]
   refine aj rfl (dj rfl rfl rfl zG rfl rfl (by rfl) ?_)
   refine yN ?_
   dsimp only [St.put]
   refine K19 _ ?_
   refine gt (i := 11) rfl zG zC ?_
   dsimp only
   refine yS fun _ K20 => ?_
   refine yS fun _ K21 => ?_
   refine yR ?_
   refine yF rfl rfl rfl rfl ?_
   refine yL rfl rfl rfl ?_
   refine yE rfl rfl rfl ?_
   try dsimp only [St.put]
   refine aj rfl (bq rfl rfl rfl (xk (decide (k = 1)) x) ?_)
   refine yA rfl rfl ?_
   refine yN ?_
   dsimp only [St.put]
   refine K21 _ ?_
   refine yS fun _ K22 => ?_
   refine yR ?_
   refine yM rfl rfl ?_
   refine aa rfl (lu rfl rfl rfl) ?_
   refine yN ?_
   dsimp only [St.put]
   refine K22 _ ?_
   refine ar rfl (fun hc => ?_) (fun hc => ?_)
   ·have hyes : 0 ≤ et (decide (k = 1)) x := of_decide_eq_true hc
    refine yR ?_
    refine yM rfl rfl ?_
    refine yM rfl rfl ?_
    refine yM rfl rfl ?_
    refine aa rfl (bu rfl rfl rfl (by omega)) ?_
    try dsimp only [St.put]
    refine aj rfl (fh rfl rfl rfl (by decide) (by decide) zR (by decide) ?_)
    try dsimp only [St.put]
    refine aj rfl (jh ([(sdN p k : Int) + et (decide (k = 1)) x]) rfl rfl zG zE rfl rfl zA ?_ zA)
    refine yA rfl rfl ?_
    refine yN ?_
    dsimp only [St.put]
    refine K20 _ ?_
    refine fm [(0, none), (1, none), (2, none), (3, none), (4, none), (5, none), (6, none), (7, none), (8, none), (9, none), (10, none)] (fun i => [7].contains i) (fun i => [7].contains i) (fun i => [0, 1, 3, 4, 5, 8, 9, 10].contains i) [] (by kernel_rfl) (by kernel_rfl) ?_
    refine xM rfl rfl rfl rfl rfl ?_
    refine ae rfl rfl rfl rfl (bw rfl rfl rfl) ?_
    try dsimp only [St.put]
    refine ah rfl rfl rfl rfl (bf rfl rfl) ?_
    refine xM rfl rfl rfl rfl rfl ?_
    refine ae rfl rfl rfl rfl (og rfl rfl) ?_
    refine ae rfl rfl rfl rfl (bw rfl rfl rfl) ?_
    try dsimp only [St.put]
    refine ah rfl rfl rfl rfl (c := val p) (jc (cs := lm p) rfl rfl (show 4 ≤ 7 by decide)) ?_
    refine il ?_
    try dsimp only [St.put]
    refine fy rfl rfl rfl rfl (bq rfl rfl rfl (pr (decide (k = 1)) p) ?_)
    refine ep rfl rfl rfl rfl (ba rfl rfl (List.length_map _)) ?_
    refine ep rfl rfl rfl rfl (bu rfl rfl rfl (by omega)) ?_
    refine ep rfl rfl rfl rfl (du rfl (by constructor)) ?_
    refine ij ?_
    dsimp only [St.put]
    refine K18 _ ?_
    refine yR ?_
    refine aa rfl (bu rfl rfl rfl (by omega)) ?_
    refine yM rfl rfl ?_
    refine yN ?_
    dsimp only [St.put]
    rw [show ((sdN p k : Nat) : Int) + ((eh p (decide (k = 1))).length : Int) = ((sdN p (k + 1) : Nat) : Int) by rw [xj hk]; omega]
    first
    | (have z : 0 ≤ et (decide (k = 1)) x := hyes
       rw [decide_eq_true z, cond_true] at hst
       rw [← hst]
       exact ⟨k + 1, by omega, by omega, ⟨⟨rfl, rfl⟩, zF, zB, zN, zX⟩⟩)
    | (have z : ¬ 0 ≤ et (decide (k = 1)) x := hno
       rw [decide_eq_false z, cond_false, List.append_nil] at hst
       rw [← hst]
       exact ⟨k + 1, by omega, by omega, ⟨⟨rfl, rfl⟩, zF, zB, zN, zX⟩⟩)
   have hno : ¬ 0 ≤ et (decide (k = 1)) x := of_decide_eq_false hc
   refine ax ?_
   refine K20 _ ?_
   refine fm [(0, none), (1, none), (2, none), (3, none), (4, none), (5, none), (6, none), (7, none), (8, none), (9, none), (10, none)] (fun i => [7].contains i) (fun i => [7].contains i) (fun i => [0, 1, 3, 4, 5, 8, 9, 10].contains i) [] (by kernel_rfl) (by kernel_rfl) ?_
   refine xM rfl rfl rfl rfl rfl ?_
   refine ae rfl rfl rfl rfl (bw rfl rfl rfl) ?_
   try dsimp only [St.put]
   refine ah rfl rfl rfl rfl (bf rfl rfl) ?_
   refine xM rfl rfl rfl rfl rfl ?_
   refine ae rfl rfl rfl rfl (og rfl rfl) ?_
   refine ae rfl rfl rfl rfl (bw rfl rfl rfl) ?_
   try dsimp only [St.put]
   refine ah rfl rfl rfl rfl (c := val p) (jc (cs := lm p) rfl rfl (show 4 ≤ 7 by decide)) ?_
   refine il ?_
   try dsimp only [St.put]
   refine fy rfl rfl rfl rfl (bq rfl rfl rfl (pr (decide (k = 1)) p) ?_)
   refine ep rfl rfl rfl rfl (ba rfl rfl (List.length_map _)) ?_
   refine ep rfl rfl rfl rfl (bu rfl rfl rfl (by omega)) ?_
   refine ep rfl rfl rfl rfl (du rfl (by constructor)) ?_
   refine ij ?_
   dsimp only [St.put]
   refine K18 _ ?_
   refine yR ?_
   refine aa rfl (bu rfl rfl rfl (by omega)) ?_
   refine yM rfl rfl ?_
   refine yN ?_
   dsimp only [St.put]
   rw [show ((sdN p k : Nat) : Int) + ((eh p (decide (k = 1))).length : Int) = ((sdN p (k + 1) : Nat) : Int) by rw [xj hk]; omega]
   first
   | (have z : 0 ≤ et (decide (k = 1)) x := hyes
      rw [decide_eq_true z, cond_true] at hst
      rw [← hst]
      exact ⟨k + 1, by omega, by omega, ⟨⟨rfl, rfl⟩, zF, zB, zN, zX⟩⟩)
   | (have z : ¬ 0 ≤ et (decide (k = 1)) x := hno
      rw [decide_eq_false z, cond_false, List.append_nil] at hst
      rw [← hst]
      exact ⟨k + 1, by omega, by omega, ⟨⟨rfl, rfl⟩, zF, zB, zN, zX⟩⟩)
  replace hc := of_decide_eq_false hc
  obtain rfl : k = 2 := by omega
  rw [uhp]
  refine tu 8 (lst (di p x)) rfl Wk.tok ?_
  refine cw ?_
  refine K14 _ ?_
  refine yR ?_
  refine aa rfl (cv rfl rfl) ?_
  try dsimp only [St.put]
  refine af rfl (c7 rfl rfl zG trivial (by first | rfl | assumption)) ?_
  refine yM rfl rfl ?_
  try dsimp only [St.put]
  refine aj rfl (fh rfl rfl rfl (by decide) (by decide) zR (by decide) ?_)
  try dsimp only [St.put]
  refine aj rfl (jh ([di p x]) rfl rfl zG zE rfl rfl zA ?_ zA)
  refine aa rfl (cv rfl rfl) ?_
  try dsimp only [St.put]
  refine aj rfl (ja rfl rfl rfl zG (by constructor) rfl zO ?_)
  refine yN ?_
  dsimp only [St.put]
  refine K9 _ ?_
  refine yR ?_
  refine aa rfl (bu rfl rfl rfl (by omega)) ?_
  refine yM rfl rfl ?_
  refine yN ?_
  dsimp only [St.put]
  have e2 := uju (di p) hx
  simp only [← e2]
  exact ⟨j + 1, by omega, by omega, ⟨⟨rfl, rfl⟩, zF, zB, zN, zX⟩⟩
 replace hc := of_decide_eq_false hc
 obtain rfl : j = p.pages.length := by omega
 rw [List.take_length]
 refine wt (nx + 1) (bl p + 2 * p.pages.length) (cells (ie p (dh p) (dx p))) zG zW ?_
 refine cw ?_
 refine K5 _ ?_
 refine yS fun _ K23 => ?_
 refine fm [(0, none), (1, none), (2, none), (3, none), (4, none), (5, none), (6, none)] (fun i => [5].contains i) (fun i => [3, 5].contains i) (fun i => [1, 4, 6].contains i) [nx + 1] (by kernel_rfl) (by kernel_rfl) ?_
 try dsimp only [St.put]
 refine ah rfl rfl rfl rfl (d7 rfl rfl zG (by simp) (by rfl)) ?_
 refine ae rfl rfl rfl rfl (cv rfl rfl) ?_
 try dsimp only [St.put]
 refine ah rfl rfl rfl rfl (c7 rfl rfl zG (by simp) (by first | rfl | assumption)) ?_
 refine il ?_
 try dsimp only [St.put]
 refine ib rfl rfl rfl (bq rfl rfl rfl (wy (bh (bl p) (dh p)) (fun z => decide (z < 0)) _ _ fun z _ => uhe z) ⟨zD, ?_⟩)
 refine ep rfl rfl rfl rfl (ef rfl rfl) ?_
 try dsimp only [St.put]
 refine fy rfl rfl rfl rfl (dj rfl rfl rfl zG rfl rfl (by rfl) ?_)
 refine ep rfl rfl rfl rfl (du rfl (by constructor)) ?_
 refine ij ?_
 dsimp only [St.put]
 refine K23 _ ?_
 refine aw ?_
 refine j5 rfl (mo rfl zG (by rfl) zC rfl) (fk (by constructor)) zN zS ?_ ?_
 ·exact zW
 rw [uj8]; exact zW
theorem uhg (m : Nat) (e : Int) (p : aq) : C.low m (bif decide (e = 0) then val (ie p (dh p) (dx p)) else .agg [.list [] .nil, .list [] .nil, .list [] .nil]) := by
 cases decide (e = 0)
 ·exact .agg (dd fp (dd fp (dd fp eg)))
 exact fa _ _
theorem ubs (n : Nat) (p : aq) (c : C) (e : Int) (h : e = 0 → f5 p ∧ c = .elem (lm p)) : n3 n m8 Tryd.prog 47 [c, .v (.int .i64 e)] (.tup [bif decide (k8 p e = 0) then val (ie p (dh p) (dx p)) else .agg [.list [] .nil, .list [] .nil, .list [] .nil], .v (.int .i64 (k8 p e))]) := fun G nx hF hnx => by
 refine oe (G) (nx) Tryd.func47 rfl (.tup (dd (uhg _ _ _) (dd .v eg))) zN (fun hlt => zH) ?_
 simp only [Tryd.ntmps47, List.length_cons, List.length_nil, Nat.reduceAdd, Nat.reduceSub]
 refine ci fun hlt => ?_
 dsimp only at hlt
 refine yS fun _ K1 => ?_
 refine yR ?_
 try dsimp only [St.put]
 refine aj rfl (eb rfl ?_)
 refine yA rfl rfl ?_
 refine yN ?_
 dsimp only [St.put]
 refine K1 _ ?_
 refine yS fun _ K2 => ?_
 refine yS fun _ K3 => ?_
 refine yR ?_
 refine yM rfl rfl ?_
 refine aa rfl (i0 rfl rfl rfl) ?_
 refine yN ?_
 dsimp only [St.put]
 refine K3 _ ?_
 refine ar rfl (fun hc => ?_) (fun hc => ?_)
 ·have h0 : e ≠ 0 := ka hc
  have hE : k8 p e = e := ucw h0
  refine yS fun _ K4 => ?_
  refine yR ?_
  refine aa rfl (je rfl rfl) ?_
  refine yM rfl rfl ?_
  try dsimp only [St.put]
  refine aj rfl (dj rfl rfl rfl zG rfl rfl (by rfl) ?_)
  refine yA rfl rfl ?_
  refine yN ?_
  dsimp only [St.put]
  refine K4 _ ?_
  refine aw ?_
  refine j5 rfl (mo rfl zG (by rfl) zC rfl) (fk (by constructor)) zN zS ?_ ?_
  ·rw [hE, decide_eq_false h0]; exact zW
  rw [hE]; exact zW
 have h0 : e = 0 := jd hc
 obtain ⟨hok, rfl⟩ := h h0
 subst h0
 refine ax ?_
 refine K2 _ ?_
 refine yS fun _ K5 => ?_
 refine yR ?_
 refine yM rfl rfl ?_
 try dsimp only [St.put]
 refine aj rfl (rf rfl rfl rfl (uin n p hok) zG (by dsimp only [St.put]; omega) ?_)
 refine yM rfl rfl ?_
 refine yX rfl rfl rfl rfl ?_
 refine yX rfl rfl rfl rfl ?_
 try dsimp only [St.put]
 refine aj rfl (eb rfl ?_)
 try dsimp only [St.put]
 refine aj rfl (dj rfl rfl rfl zG rfl rfl (by rfl) ?_)
 refine yA rfl rfl ?_
 refine yN ?_
 dsimp only [St.put]
 refine K5 _ ?_
 refine yS fun _ K6 => ?_
 refine yS fun _ K7 => ?_
 refine yR ?_
 refine yM rfl rfl ?_
 refine aa rfl (ef rfl rfl) ?_
 refine yN ?_
 dsimp only [St.put]
 refine K7 _ ?_
 refine ar rfl (fun hc => ?_) (fun hc => ?_)
 ·have hTB : iz p = false := by simpa using hc
  have hE : k8 p 0 = 8 := by rw [sy, hTB]; rfl
  refine yS fun _ K8 => ?_
  refine yR ?_
  refine aa rfl (je rfl rfl) ?_
  try dsimp only [St.put]
  refine aj rfl (dj rfl rfl rfl zG rfl rfl (by rfl) ?_)
  refine yA rfl rfl ?_
  refine yN ?_
  dsimp only [St.put]
  refine K8 _ ?_
  refine aw ?_
  refine j5 rfl (mo rfl zG (by rfl) zC rfl) (fk (by constructor)) zN zS ?_ ?_
  ·rw [hE]; exact zW
  rw [hE]; exact zW
 have hTB : iz p = true := by simpa using hc
 have hE : k8 p 0 = 0 := by rw [sy, hTB]; rfl
 refine ax ?_
 refine K6 _ ?_
 refine yS fun _ K9 => ?_
 refine yR ?_
 try dsimp only [St.put]
 refine af rfl (d7 rfl rfl zG trivial (by rfl)) ?_
 try dsimp only [St.put]
 refine aj rfl (dj rfl rfl rfl zG rfl rfl (by rfl) ?_)
 refine yA rfl rfl ?_
 refine yN ?_
 dsimp only [St.put]
 refine K9 _ ?_
 refine aw ?_
 refine j5 rfl (mo rfl zG (by rfl) zC rfl) (fk (by constructor)) zN zS ?_ ?_
 ·rw [hE]; exact zW
 rw [hE]; exact zW
end Go.Proofs.YtgffhbbcpgdjjaaDoor
namespace Go.AB
open Go Go.RowKit
open Go.AB.Enc (cells)
open Go.PB (ay ak PlaceD bi bk bj bz av aq cy cx dp dm)
end Go.AB
namespace Go.Proofs.YtgffhbbcpgdjjaaDoor
set_option maxRecDepth 10000
open Go.RowKit Go.AB
open Go.AB.Enc (cells)
open Go.PB (ay ak PlaceD bi bk bj bz av aq cy cx dp dm)
end Go.Proofs.YtgffhbbcpgdjjaaDoor
namespace Go.AB
open Go Go.RowKit
open Go.AB.Enc (cells)
open Go.PB (ay ak PlaceD bi bk bj bz av aq cy cx dp dm)
theorem uka {p : aq} {e : Int} (h : k8 p e = 0) : e = 0 ∧ iz p = true := by
 by_cases h0 : e = 0
 ·subst h0
  rw [sy] at h
  cases ht : iz p
  ·rw [ht] at h; cases h
  exact ⟨rfl, rfl⟩
 rw [ucw h0] at h; exact absurd h h0
end Go.AB
namespace Go.Proofs.YtgffhbbcpgdjjaaDoor
set_option maxRecDepth 10000
open Go Go.RowKit Go.AB
open Go.AB.Enc (cells)
open Go.PB (ay ak PlaceD bi bk bj bz av aq cy cx dp dm)
theorem uec {p : aq} (h : ey p = 0) : f5 p ∧ nd p = .elem (lm p) := ⟨(zd h).1, ub4 h⟩
theorem uij (n : Nat) (p : aq) (c : C) (e : Int) (h : e = 0 → f5 p ∧ c = .elem (lm p)) (hE : k8 p e = 0) : n3 n m8 Tryd.prog 47 [c, .v (.int .i64 e)] (.tup [val (ie p (dh p) (dx p)), .v (.int .i64 0)]) := by
 have := ubs n p c e h
 rwa [hE, decide_eq_true rfl, cond_true] at this
theorem uik (n : Nat) (p : aq) (c : C) (e : Int) (h : e = 0 → f5 p ∧ c = .elem (lm p)) (hE : k8 p e ≠ 0) : n3 n m8 Tryd.prog 47 [c, .v (.int .i64 e)] (.tup [.agg [.list [] .nil, .list [] .nil, .list [] .nil], .v (.int .i64 (k8 p e))]) := by
 have := ubs n p c e h
 rwa [decide_eq_false hE, cond_false] at this
end Go.Proofs.YtgffhbbcpgdjjaaDoor
namespace Go.Proofs.YtgffhbbcpgdjjaaDoor
set_option maxRecDepth 10000
open Go Go.RowKit Go.AB
open Go.AB.Enc (cells)
open Go.PB (ay ak PlaceD bi bk bj bz av aq cy cx dp dm)
set_option maxHeartbeats 1000000 in
theorem ugz (nF : Nat) (n : Nat) (hb : n ≤ 8) : wx nF m8 Tryd.prog 79 [.elem [.v (.int .i64 (n : Int))]] (2 ^ n) (fun s => [.v (.int .i64 (s : Int)), lst (d8 n s)]) := by
 refine uc0 Tryd.func79 rfl rfl fun I hN hcl ok hG hn => ?_
 simp only [Tryd.ntmps79, List.length_cons, List.length_nil, Nat.reduceAdd, Nat.reduceSub]
 have h256 : 2 ^ n ≤ 2 ^ 8 := Nat.pow_le_pow_right (by omega) hb
 refine lf 2 ?_
 refine zQ ?_
 refine pi ?_
 dsimp only [FC.st]
 refine ci fun hlt => ?_
 dsimp only at hlt
 refine dg ?_
 try dsimp only [St.put]
 first | refine af rfl (bf rfl rfl) ?_ | refine af rfl (bv rfl rfl (Enc.len _)) ?_ | refine af rfl (bv rfl rfl rfl) ?_ | refine af rfl (c7 rfl rfl zG trivial (by first | rfl | assumption)) ?_ | refine af rfl (d7 rfl rfl zG trivial (by rfl)) ?_ | refine af rfl (er rfl rfl zG trivial (by simp)) ?_ | refine af rfl (co rfl rfl zG trivial (em (by assumption) rfl)) ?_ | refine af rfl (co rfl rfl zG trivial (by assumption)) ?_ | refine af rfl (ez rfl rfl zG trivial rfl (by assumption) rfl (by decide)) ?_ | refine af rfl (el rfl rfl zG (by rfl)) ?_
 refine aa rfl (u7 (n := n) rfl rfl rfl (by omega)) ?_
 refine aa rfl (cr rfl (by constructor)) ?_
 refine c4 ?_
 dsimp only [St.put]
 show ke _ _ _ _ _ _ _
 refine pj ok rfl ⟨rfl, rfl, zK, zN, zS, zK⟩ ?_
 refine qz ?_
 refine lf 9 ?_
 refine zQ ?_
 refine yw (X := Nat) (fun s => s ≤ 2 ^ n) (fun s => 2 ^ n - s) (fun s => [(3, .any), (4, .any), (5, .any), (8, .v (.int .i64 (s : Int)))]) (fun s => s) 0 rfl ?_ ?_ ?_ ?_ ?_
 ·exact Nat.zero_le _
 ·exact zF
 ·rfl
 ·rintro s hI
  exact zL
 ·rintro s hI
  dsimp only at hI ⊢
  refine lf 9 ?_
  refine zQ ?_
  refine pi ?_
  dsimp only [FC.st]
  refine ci fun hlt => ?_
  dsimp only at hlt
  refine dg ?_
  refine aa rfl (cj rfl rfl rfl) ?_
  refine c4 ?_
  dsimp only [St.put]
  show ke _ _ _ _ _ _ _
  refine pj ok rfl ⟨rfl, rfl, zK, zN, zS, zK⟩ ?_
  refine ph fun K1 hK1 => ?_
  refine ti rfl (fun hc => ?_) (fun hc => ?_)
  ·replace hc := of_decide_eq_true hc
   have hs : s < 2 ^ n := by omega
   refine th ?_
   refine hK1 _ _ ?_
   refine ph fun K2 hK2 => ?_
   refine qz ?_
   refine lf 9 ?_
   refine zQ ?_
   refine pi ?_
   dsimp only [FC.st]
   refine ci fun hlt => ?_
   dsimp only at hlt
   refine dg ?_
   refine aa rfl (cr rfl (by constructor)) ?_
   refine aa rfl (du rfl (by constructor)) ?_
   refine c4 ?_
   dsimp only [St.put]
   show ke _ _ _ _ _ _ _
   refine vy ?_
   refine dg ?_
   refine aa rfl (du rfl (by constructor)) ?_
   refine c4 ?_
   dsimp only [St.put]
   show ke _ _ _ _ _ _ _
   refine vy ?_
   refine pp 4 3 1 rfl (by decide) ?_
   dsimp only [List.set_cons_zero, List.set_cons_succ]
   refine dn fun K3 hK3 => ?_
   refine dg ?_
   try dsimp only [St.put]
   first | refine af rfl (bf rfl rfl) ?_ | refine af rfl (bv rfl rfl (Enc.len _)) ?_ | refine af rfl (bv rfl rfl rfl) ?_ | refine af rfl (c7 rfl rfl zG trivial (by first | rfl | assumption)) ?_ | refine af rfl (d7 rfl rfl zG trivial (by rfl)) ?_ | refine af rfl (er rfl rfl zG trivial (by simp)) ?_ | refine af rfl (co rfl rfl zG trivial (em (by assumption) rfl)) ?_ | refine af rfl (co rfl rfl zG trivial (by assumption)) ?_ | refine af rfl (ez rfl rfl zG trivial rfl (by assumption) rfl (by decide)) ?_ | refine af rfl (el rfl rfl zG (by rfl)) ?_
   refine aa rfl (cr rfl (by constructor)) ?_
   refine c4 ?_
   dsimp only [St.put]
   refine hK3 _ ?_
   refine az ?_
   refine ck 13 ?_
   refine zQ ?_
   refine c6 ((ai (I.G s) I.nx (.tip (d8 0 s).length 3 1))) zX ?_
   dsimp only
   refine c5 (X := Nat) (fun k => k ≤ n) (fun k => n - k) (fun k => [(4, .list ((d8 k s).map cells) (.tip I.nx)), (5, .any), (12, .v (.int .i64 (k : Int)))]) (fun k G' => (ai (I.G s) I.nx (.tip (d8 k s).length 3 1))) 0 rfl ?_ ?_ ?_ ?_ ?_ ?_
   ·exact Nat.zero_le _
   ·exact zF
   ·exact zX
   ·rintro k hI
    exact zL
   ·rintro k hI
    exact zH
   ·rintro k hK
    dsimp only at hK ⊢
    refine dn fun K4 hK4 => ?_
    refine dg ?_
    refine aa rfl (cj rfl rfl rfl) ?_
    refine c4 ?_
    dsimp only [St.put]
    refine hK4 _ ?_
    refine dn fun K5 hK5 => ?_
    refine ar rfl (fun hc => ?_) (fun hc => ?_)
    ·replace hc := of_decide_eq_true hc
     have hml := p8 k s
     refine ax ?_
     refine hK5 _ ?_
     refine dn fun K6 hK6 => ?_
     refine az ?_
     refine dn fun K7 hK7 => ?_
     refine dg ?_
     refine aa rfl (cr rfl (by constructor)) ?_
     refine aa rfl (du rfl (by constructor)) ?_
     refine c4 ?_
     dsimp only [St.put]
     refine hK7 _ ?_
     refine dn fun K8 hK8 => ?_
     refine dg ?_
     refine aa rfl (cr rfl (by constructor)) ?_
     refine aa rfl (cr rfl (by constructor)) ?_
     refine aa rfl (qq (m := s) (n := k) rfl rfl rfl (by show k ≤ 64; omega) (by show (s : Int) ≤ 9223372036854775807; omega) (by decide)) ?_
     refine aa rfl (qt (m := s / 2 ^ k) rfl rfl rfl (Nat.lt_of_le_of_lt (Nat.div_le_self _ _) (by show s < 2 ^ 64; omega)) (by decide)) ?_
     refine aa rfl (lv rfl rfl rfl) ?_
     refine c4 ?_
     dsimp only [St.put]
     refine hK8 _ ?_
     refine ar rfl (fun hc => ?_) (fun hc => ?_)
     ·have hb1 : s.testBit k = true := bit_eq.1 (of_decide_eq_true hc)
      refine dg ?_
      refine aa rfl (cr rfl (by constructor)) ?_
      refine aa rfl (cr rfl (by constructor)) ?_
      try dsimp only [St.put]
      refine aj rfl (fh rfl rfl rfl (by decide) (by decide) zR (by decide) ?_)
      try dsimp only [St.put]
      refine aj rfl (jh ([(k : Int)]) rfl rfl zG zE rfl rfl zA ?_ zA)
      refine aa rfl (du rfl (by constructor)) ?_
      refine c4 ?_
      dsimp only [St.put]
      refine hK6 _ ?_
      refine dg ?_
      first | refine aa rfl (bu rfl rfl rfl (by omega)) ?_ | refine aa rfl (kf rfl rfl rfl) ?_
      refine aa rfl (cr rfl (by constructor)) ?_
      refine c4 ?_
      dsimp only [St.put]
      have e := vh k s
      first
      | (have q : s.testBit k = true := hb1
         rw [q, cond_true] at e
         rw [← e]
         exact ⟨k + 1, by omega, by omega, ⟨⟨rfl, rfl⟩, zF, zB, zN, zX⟩⟩)
      | (have q : s.testBit k = false := hb0
         rw [q, cond_false, List.append_nil] at e
         rw [← e]
         exact ⟨k + 1, by omega, by omega, ⟨⟨rfl, rfl⟩, zF, zB, zN, zX⟩⟩)
     ·have hb0 : s.testBit k = false := by
       have := of_decide_eq_false hc
       rw [bit_eq, Bool.not_eq_true] at this
       exact this
      refine ax ?_
      refine hK6 _ ?_
      refine dg ?_
      first | refine aa rfl (bu rfl rfl rfl (by omega)) ?_ | refine aa rfl (kf rfl rfl rfl) ?_
      refine aa rfl (cr rfl (by constructor)) ?_
      refine c4 ?_
      dsimp only [St.put]
      have e := vh k s
      first
      | (have q : s.testBit k = true := hb1
         rw [q, cond_true] at e
         rw [← e]
         exact ⟨k + 1, by omega, by omega, ⟨⟨rfl, rfl⟩, zF, zB, zN, zX⟩⟩)
      | (have q : s.testBit k = false := hb0
         rw [q, cond_false, List.append_nil] at e
         rw [← e]
         exact ⟨k + 1, by omega, by omega, ⟨⟨rfl, rfl⟩, zF, zB, zN, zX⟩⟩)
    ·replace hc := of_decide_eq_false hc
     obtain rfl : k = n := by omega
     refine tu 4 (lst (d8 k s)) rfl Wk.tok ?_
     refine cw ?_
     show ke _ _ _ _ _ _ _
     refine pj ok rfl ⟨rfl, rfl, zK, zN, zS, zK⟩ ?_
     refine ph fun K9 hK9 => ?_
     refine uc7 ?_
     refine qc rfl (cr rfl (by constructor)) ?_
     refine qc rfl (cr rfl (by constructor)) ?_
     refine qc rfl (cr rfl (by constructor)) ?_
     try dsimp only [St.put]
     refine udb ok (by rw [hN]; exact hs) rfl rfl rfl rfl (by rw [hcl]; rfl) ?_
     refine qc rfl (ef rfl rfl) ?_
     refine udc ?_
     dsimp only [St.put]
     refine hK9 _ _ ?_
     refine ti rfl (fun h => by cases h) (fun _ => ?_)
     refine th ?_
     refine hK2 _ _ ?_
     refine lf 9 ?_
     refine zQ ?_
     refine yv ok rfl ?_
     dsimp only [FC.st]
     refine ci fun hlt => ?_
     dsimp only at hlt
     refine dg ?_
     first | refine aa rfl (bu rfl rfl rfl (by omega)) ?_ | refine aa rfl (kf rfl rfl rfl) ?_
     refine aa rfl (cr rfl (by constructor)) ?_
     refine c4 ?_
     dsimp only [St.put]
     refine ⟨⟨rfl, rfl, zK, zN, zS, zK⟩, ?_⟩
     exact ⟨s + 1, by omega, by omega, rfl, ⟨⟨rfl, rfl⟩, zF, zB, zN, zX⟩⟩
  ·replace hc := of_decide_eq_false hc
   obtain rfl : s = 2 ^ n := by omega
   refine yx ?_
   exact ⟨.inl rfl, rfl⟩
end Go.Proofs.YtgffhbbcpgdjjaaDoor
namespace Go.AB
open Go Go.RowKit
open Go.AB.Enc (cells)
open Go.PB (ay ak PlaceD bi bk bj bz av aq cy cx dp dm)
theorem uel {so : Nat → Bool} {n k : Nat} : ((dz so n k).getD []).length ≤ n := by
 rcases zg so n k with ⟨h, _⟩ | ⟨b, h, k⟩
 ·rw [h]; exact Nat.zero_le _
 rw [h]
 obtain ⟨s, _, _, rfl⟩ := k.get
 exact p8 n s
theorem ul8 {so : Nat → Bool} {n k : Nat} (h : so k = false) : dz so n (k + 1) = dz so n k := by
 cases hb : dz so n k with
 | none => rw [zi hb, h]; rfl
 | some b => rw [wl hb, h]; rfl
theorem uma {so : Nat → Bool} {n k : Nat} (hb : dz so n k = none) (h : so k = true) : dz so n (k + 1) = some (d8 n k) := by rw [zi hb, h]; rfl
theorem ul9 {so : Nat → Bool} {n k : Nat} {b : List Int} (hb : dz so n k = some b) (h : so k = true) : dz so n (k + 1) = bif gx (d8 n k) b then some (d8 n k) else some b := by rw [wl hb, h]; rfl
theorem uae {α : Type} {l : List α} {k : Nat} {x : α} (h : l[k]? = some x) : l.take (k + 1) = l.take k ++ [x] := by rw [List.take_add_one, h]; rfl
end Go.AB
namespace Go.Proofs.YtgffhbbcpgdjjaaDoor
set_option maxRecDepth 10000
open Go.RowKit Go.AB
open Go.AB.Enc (cells)
open Go.PB (ay ak PlaceD bi bk bj bz av aq cy cx dp dm)
end Go.Proofs.YtgffhbbcpgdjjaaDoor
namespace Go.AB
open Go Go.RowKit
open Go.AB.Enc (cells)
open Go.PB (ay ak PlaceD bi bk bj bz av aq cy cx dp dm)
theorem uej {so : Nat → Bool} {n k : Nat} (hb : dz so n k = none) : dz so n (k + 1) = bif so k then some (d8 n k) else none := zi hb
theorem uek {so : Nat → Bool} {n k : Nat} {b : List Int} (hb : dz so n k = some b) (h : gx (d8 n k) b = true) : dz so n (k + 1) = bif so k then some (d8 n k) else some b := by rw [wl hb, h, Bool.and_true]
theorem zh {so : Nat → Bool} {n k : Nat} {b : List Int} (hb : dz so n k = some b) (h : gx (d8 n k) b = false) : dz so n (k + 1) = some b := by rw [wl hb, h, Bool.and_false]; rfl
theorem wo {p : aq} {R C : Nat → Int} (h : Bd p R C) (l : List Int) : Bd p R (jp C l) := ⟨h.r, fun j => by
 have := h.c j
 unfold jp
 cases decide ((j : Int) ∈ l)
 ·exact this
 exact ⟨Int.le_refl _, by show (0 : Int) ≤ 1000000; omega⟩, h.nr, h.np⟩
theorem uea {p : aq} {m : Int} (h : ey p ≠ 0) : jj p m = ey p := by unfold jj; rw [decide_eq_false h]; rfl
theorem ud9 {p : aq} {m : Int} (h : ey p = 0) (hm : m < 0) : jj p m = 2 := by unfold jj; rw [decide_eq_true h, decide_eq_true hm]; rfl
theorem ueb {p : aq} {m : Int} (h : ey p = 0) (hm : ¬ m < 0) (ht : iz p = false) : jj p m = 8 := by unfold jj; rw [decide_eq_true h, decide_eq_false hm, ht]; rfl
theorem ud8 {p : aq} {m : Int} (h : ey p = 0) (hm : ¬ m < 0) (ht : iz p = true) : jj p m = 0 := by unfold jj; rw [decide_eq_true h, decide_eq_false hm, ht]; rfl
end Go.AB
namespace Go.Proofs.YtgffhbbcpgdjjaaDoor
set_option maxRecDepth 10000
open Go.RowKit Go.AB
open Go.AB.Enc (cells)
open Go.PB (ay ak PlaceD bi bk bj bz av aq cy cx dp dm)
theorem uh9 (p : aq) (l : List Int) (h : f5 p) (hl : l.length ≤ 1000) (hm : ∀ z ∈ l, 0 ≤ z ∧ z < (p.pages.length : Int)) : Pure Tryd.prog 57 [val p, val (o4 p (dh p) (dx p)), lst l] (.v (.int .i64 (zq p l))) := by
 refine cz Tryd.func57 rfl (fun m => .v) fun G nx => ?_
 simp only [Tryd.ntmps57, List.length_cons, List.length_nil, Nat.reduceAdd, Nat.reduceSub]
 refine ci fun hlt => ?_
 dsimp only at hlt
 refine yS fun _ K1 => ?_
 refine yR ?_
 try dsimp only [St.put]
 refine yB rfl rfl rfl ?_
 try dsimp only [St.put]
 refine yB rfl rfl rfl ?_
 refine yA rfl rfl ?_
 refine yN ?_
 dsimp only [St.put]
 refine K1 _ ?_
 refine yS fun _ K2 => ?_
 refine yR ?_
 refine yE rfl rfl rfl ?_
 try dsimp only [St.put]
 refine aj rfl (eb rfl ?_)
 try dsimp only [St.put]
 refine aj rfl (dj rfl rfl rfl zG rfl rfl (by rfl) ?_)
 refine yN ?_
 dsimp only [St.put]
 rw [show dx p = jp (dx p) (l.take 0) by rw [List.take_zero, zv]]
 refine K2 _ ?_
 refine yS fun _ K3 => ?_
 refine yS fun _ K4 => ?_
 refine yR ?_
 refine yA rfl rfl ?_
 refine yN ?_
 dsimp only [St.put]
 refine K4 _ ?_
 refine az ?_
 refine ck 9 ?_
 refine zQ ?_
 refine c6 ((ai G nx (.box (0 + 1) [lst (bh (bl p) (dh p)), lst (bh p.pages.length (jp (dx p) (l.take 0)))]))) zX ?_
 dsimp only
 refine c5 (X := Nat) (fun k => k ≤ l.length) (fun k => l.length - k) (fun k => [(8, .v (.int .i64 (k : Int)))]) (fun k G' => (ai G nx (.box (k + 1) [lst (bh (bl p) (dh p)), lst (bh p.pages.length (jp (dx p) (l.take k)))]))) 0 rfl ?_ ?_ ?_ ?_ ?_ ?_
 ·exact Nat.zero_le _
 ·exact zF
 ·exact zX
 ·rintro k hI
  exact zL
 ·rintro k hI
  exact zH
 rintro k hI
 dsimp only at hI ⊢
 refine yS fun _ K5 => ?_
 refine yS fun _ K6 => ?_
 refine yR ?_
 refine yM rfl rfl ?_
 refine yM rfl rfl ?_
 refine aa rfl (ba rfl rfl (List.length_map _)) ?_
 refine aa rfl (cj rfl rfl rfl) ?_
 refine yN ?_
 dsimp only [St.put]
 refine K6 _ ?_
 refine ar rfl (fun hc => ?_) (fun hc => ?_)
 ·replace hc := of_decide_eq_true hc
  obtain ⟨z0, hz0⟩ : ∃ z, l[k]? = some z := da (by omega)
  have hzb := hm z0 (fq hz0)
  obtain ⟨j, rfl⟩ : ∃ j : Nat, z0 = (j : Int) := ⟨z0.toNat, by omega⟩
  have hz := hz0
  obtain ⟨x, hx⟩ : ∃ x, p.pages[j]? = some x := da (by omega)
  have hB := wo (wr h) (l.take k)
  refine ax ?_
  refine K5 _ ?_
  refine yS fun _ K7 => ?_
  refine az ?_
  refine fm [(0, none), (1, none), (2, none), (3, none), (4, none), (5, none), (6, none), (7, none)] (fun i => [6, 7].contains i) (fun i => [6, 7].contains i) (fun i => [2, 3, 4].contains i) [nx] (by kernel_rfl) (by kernel_rfl) ?_
  try dsimp only [St.put]
  refine ah rfl rfl rfl rfl (bv rfl rfl (Enc.len _)) ?_
  try dsimp only [St.put]
  refine ah rfl rfl rfl rfl (d7 rfl rfl zG (by simp) (by rfl)) ?_
  refine xM rfl rfl rfl rfl rfl ?_
  refine xM rfl rfl rfl rfl rfl ?_
  try dsimp only [St.put]
  refine ae rfl rfl rfl rfl (bn rfl rfl rfl rfl (bp (by assumption)) (Enc.len _)) ?_
  try dsimp only [St.put]
  refine ah rfl rfl rfl rfl (bf rfl rfl) ?_
  refine il ?_
  try dsimp only [St.put]
  refine fy rfl rfl rfl rfl (bq rfl rfl rfl (uhy p (dh p) (jp (dx p) (l.take k)) j x 0 h hx (by omega) hB.r) ?_)
  try dsimp only [St.put]
  refine fy rfl rfl rfl rfl (dj rfl rfl rfl zG rfl rfl (by rfl) ?_)
  refine ij ?_
  dsimp only [St.put]
  refine K7 _ ?_
  refine yR ?_
  refine yM rfl rfl ?_
  refine aa rfl (bu rfl rfl rfl (by omega)) ?_
  refine yA rfl rfl ?_
  refine yN ?_
  dsimp only [St.put]
  rw [uct, ← zu, ← uae hz]
  exact ⟨k + 1, by omega, by omega, ⟨⟨rfl, rfl⟩, zF, zB, zN, zX⟩⟩
 replace hc := of_decide_eq_false hc
 rw [ff (show l.length ≤ k by omega)]
 refine cw ?_
 refine K3 _ ?_
 refine yS fun _ K8 => ?_
 refine yR ?_
 refine yE rfl rfl rfl ?_
 try dsimp only [St.put]
 refine af rfl (d7 rfl rfl zG trivial (by rfl)) ?_
 try dsimp only [St.put]
 refine aj rfl (bq rfl rfl rfl (uhv p (dh p) (jp (dx p) l) h (wo (wr h) l)) ?_)
 refine yA rfl rfl ?_
 refine yN ?_
 dsimp only [St.put]
 refine K8 _ ?_
 refine aw ?_
 refine bg rfl (by constructor) zN zS ?_
 rfl
set_option maxHeartbeats 1000000 in
theorem uh6 (p : aq) (m : Int) : Pure Tryd.prog 23 [val p, .v (.int .i64 m)] (.tup [lst (ji p m), .v (.int .i64 (jj p m))]) := by
 refine cz Tryd.func23 rfl (fun m => .tup (dd (cg _ _) (dd .v eg))) fun G nx => ?_
 simp only [Tryd.ntmps23, List.length_cons, List.length_nil, Nat.reduceAdd, Nat.reduceSub]
 refine ci fun hlt => ?_
 dsimp only at hlt
 refine yS fun _ K1 => ?_
 refine yR ?_
 try dsimp only [St.put]
 refine yB rfl rfl rfl ?_
 refine yA rfl rfl ?_
 refine yA rfl rfl ?_
 refine yN ?_
 dsimp only [St.put]
 refine K1 _ ?_
 refine yS fun _ K2 => ?_
 refine yS fun _ K3 => ?_
 refine yR ?_
 refine yE rfl rfl rfl ?_
 try dsimp only [St.put]
 refine aj rfl (bq rfl rfl rfl (uh7 p) ?_)
 refine yA rfl rfl ?_
 refine yN ?_
 dsimp only [St.put]
 refine K3 _ ?_
 refine yS fun _ K4 => ?_
 refine yR ?_
 refine yM rfl rfl ?_
 refine aa rfl (i0 rfl rfl rfl) ?_
 refine yN ?_
 dsimp only [St.put]
 refine K4 _ ?_
 refine ar rfl (fun hc => ?_) (fun hc => ?_)
 ·have h0 : ey p ≠ 0 := ka hc
  have hE : jj p m = ey p := uea h0
  have hV : ji p m = [] := by unfold ji; rw [hE, rh h0]
  refine yS fun _ K5 => ?_
  refine yR ?_
  refine yM rfl rfl ?_
  refine yA rfl rfl ?_
  refine yA rfl rfl ?_
  refine yN ?_
  dsimp only [St.put]
  refine K5 _ ?_
  refine aw ?_
  refine j5 rfl (fk (by constructor)) (fk (by constructor)) zN zS ?_ ?_
  ·rw [hV]; exact zW
  rw [hE]; exact zW
 have h0 : ey p = 0 := jd hc
 obtain ⟨hok, _⟩ := zd h0
 have hnp := hok.np
 have h64 : 2 ^ p.pages.length ≤ 2 ^ 8 := Nat.pow_le_pow_right (by omega) (by omega)
 have hpos : 0 < 2 ^ p.pages.length := Nat.two_pow_pos _
 refine ax ?_
 refine K2 _ ?_
 refine yS fun _ K6 => ?_
 refine yS fun _ K7 => ?_
 refine yR ?_
 refine yM rfl rfl ?_
 refine aa rfl (cj rfl rfl rfl) ?_
 refine yN ?_
 dsimp only [St.put]
 refine K7 _ ?_
 refine ar rfl (fun hc => ?_) (fun hc => ?_)
 ·have hm : m < 0 := of_decide_eq_true hc
  have hE : jj p m = 2 := ud9 h0 hm
  have hV : ji p m = [] := by unfold ji; rw [hE, rh (by decide)]
  refine yS fun _ K8 => ?_
  refine yR ?_
  refine yA rfl rfl ?_
  refine yA rfl rfl ?_
  refine yN ?_
  dsimp only [St.put]
  refine K8 _ ?_
  refine aw ?_
  refine j5 rfl (fk (by constructor)) (fk (by constructor)) zN zS ?_ ?_
  ·rw [hV]; exact zW
  rw [hE]; exact zW
 have hm : ¬ m < 0 := of_decide_eq_false hc
 refine ax ?_
 refine K6 _ ?_
 refine yS fun _ K9 => ?_
 refine yR ?_
 refine yE rfl rfl rfl ?_
 try dsimp only [St.put]
 refine aj rfl (bq rfl rfl rfl (uhs p hok) ?_)
 refine yM rfl rfl ?_
 refine yX rfl rfl rfl rfl ?_
 refine yX rfl rfl rfl rfl ?_
 try dsimp only [St.put]
 refine aj rfl (eb rfl ?_)
 try dsimp only [St.put]
 refine aj rfl (dj rfl rfl rfl zG rfl rfl (by rfl) ?_)
 refine yA rfl rfl ?_
 refine yN ?_
 dsimp only [St.put]
 refine K9 _ ?_
 refine gt (i := 7) rfl zG zC ?_
 dsimp only
 refine yS fun _ K10 => ?_
 refine yS fun _ K11 => ?_
 refine yR ?_
 refine yM rfl rfl ?_
 refine aa rfl (ef rfl rfl) ?_
 refine yN ?_
 dsimp only [St.put]
 refine K11 _ ?_
 refine ar rfl (fun hc => ?_) (fun hc => ?_)
 ·have hTB : iz p = false := by simpa using hc
  have hE : jj p m = 8 := ueb h0 hm hTB
  have hV : ji p m = [] := by unfold ji; rw [hE, rh (by decide)]
  refine yS fun _ K12 => ?_
  refine yR ?_
  refine yA rfl rfl ?_
  refine yA rfl rfl ?_
  refine yN ?_
  dsimp only [St.put]
  refine K12 _ ?_
  refine aw ?_
  refine j5 rfl (fk (by constructor)) (fk (by constructor)) zN zS ?_ ?_
  ·rw [hV]; exact zW
  rw [hE]; exact zW
 have hTB : iz p = true := by simpa using hc
 have hE : jj p m = 0 := ud8 h0 hm hTB
 have hV : ji p m = qe (ii p m) p.pages.length := by unfold ji; rw [hE, uev]
 rw [ua8 hTB]
 refine ax ?_
 refine K10 _ ?_
 refine yS fun _ K13 => ?_
 refine yR ?_
 refine yA rfl rfl ?_
 refine yN ?_
 dsimp only [St.put]
 refine K13 _ ?_
 refine yS fun _ K14 => ?_
 refine tu 9 (lst ([] : List Int)) rfl Wk.tok ?_
 refine yR ?_
 refine yA rfl rfl ?_
 refine yN ?_
 dsimp only [St.put]
 refine K14 _ ?_
 refine yS fun _ K15 => ?_
 refine yS fun _ K16 => ?_
 refine yR ?_
 refine yA rfl rfl ?_
 refine yN ?_
 dsimp only [St.put]
 refine K16 _ ?_
 refine az ?_
 refine ck 13 ?_
 refine zQ ?_
 refine c6 (G) zX ?_
 dsimp only
 refine c5 (X := Nat) (fun s => s ≤ 2 ^ p.pages.length) (fun s => 2 ^ p.pages.length - s) (fun s => [(9, lst ((dz (ii p m) p.pages.length s).getD [])), (10, .v (.bool (dz (ii p m) p.pages.length s).isSome)), (11, .v (.int .i64 (s : Int))), (12, .any)]) (fun s G' => G') 0 rfl ?_ ?_ (fun _ _ h => h) ?_ ?_ ?_
 ·exact Nat.zero_le _
 ·exact zF
 ·rintro s hI
  exact zL
 ·exact fun _ _ _ _ h => .inl h
 rintro s hI
 dsimp only at hI ⊢
 refine yS fun _ K17 => ?_
 refine yS fun _ K18 => ?_
 refine yR ?_
 refine yM rfl rfl ?_
 refine yF rfl rfl rfl rfl ?_
 refine yL rfl rfl rfl ?_
 refine aa rfl (ba rfl rfl (List.length_map _)) ?_
 refine aa rfl (u7 (n := p.pages.length) rfl rfl rfl (by omega)) ?_
 refine aa rfl (cj rfl rfl rfl) ?_
 refine yN ?_
 dsimp only [St.put]
 refine K18 _ ?_
 refine ar rfl (fun hc => ?_) (fun hc => ?_)
 ·replace hc := of_decide_eq_true hc
  have hlt : s < 2 ^ p.pages.length := by
   have : (s : Int) < ((2 ^ p.pages.length : Nat) : Int) := hc
   omega
  have hbl := uel (so := ii p m) (n := p.pages.length) (k := s)
  have hml := p8 p.pages.length s
  have hmm : ∀ z ∈ d8 p.pages.length s, 0 ≤ z ∧ z < (p.pages.length : Int) := fun z hz => by
   obtain ⟨i, rfl, hi, _⟩ := membersL_mem.1 hz
   omega
  refine ax ?_
  refine K17 _ ?_
  refine yS fun _ K19 => ?_
  refine az ?_
  refine yS fun _ K20 => ?_
  refine yR ?_
  refine yM rfl rfl ?_
  refine yF rfl rfl rfl rfl ?_
  refine yL rfl rfl rfl ?_
  refine aa rfl (ba rfl rfl (List.length_map _)) ?_
  try dsimp only [St.put]
  refine aj rfl (bq rfl rfl rfl (uhw s p.pages.length (by omega) (by omega)) ?_)
  refine yA rfl rfl ?_
  refine yN ?_
  dsimp only [St.put]
  refine K20 _ ?_
  refine yS fun _ K21 => ?_
  refine ck 13 ?_
  refine zQ ?_
  refine km (X := Bool) (fun d => dz (ii p m) p.pages.length (s + 1) = bif d then dz (ii p m) p.pages.length s else bif ii p m s then some (d8 p.pages.length s) else dz (ii p m) p.pages.length s) (fun d => [(46, .v (.bool d))]) (fun d G' => G') rfl ?_ (fun _ _ _ _ h => .inl h) ?_ ?_
  ·rintro d hI
   exact zL
  ·refine yR ?_
   refine yM rfl rfl ?_
   refine yM rfl rfl ?_
   refine eo (fun hs => ?_) (fun hs => ?_)
   ·obtain ⟨b, hb0⟩ : ∃ b, dz (ii p m) p.pages.length s = some b := by
      cases hb : dz (ii p m) p.pages.length s with
      | none => rw [hb] at hs; cases hs
      | some b => exact ⟨b, rfl⟩
    rw [hb0] at hbl
    rw [hb0]
    refine yM rfl rfl ?_
    refine yM rfl rfl ?_
    try dsimp only [St.put]
    refine aj rfl (bq rfl rfl rfl (uh8 (d8 p.pages.length s) b (by omega) (by have : b.length ≤ p.pages.length := hbl; omega)) ?_)
    refine aa rfl (ef rfl rfl) ?_
    refine aa rfl (cm rfl rfl (by constructor)) ?_
    refine yN ?_
    dsimp only [St.put]
    refine ⟨_, ?_, ⟨⟨rfl, rfl⟩, zF, zB, zN, zX⟩⟩
    first
    | (rw [hb0]; exact uej hb0)
    | (cases hbf : gx (d8 p.pages.length s) b
       ·exact zh hb0 hbf
       exact uek hb0 hbf)
   have hb0 : dz (ii p m) p.pages.length s = none := by
     cases hb : dz (ii p m) p.pages.length s with
     | none => rfl
     | some b => rw [hb] at hs; cases hs
   refine yK rfl ?_
   refine yK rfl ?_
   refine yK rfl ?_
   refine yK rfl ?_
   refine aa rfl (ce rfl rfl (by constructor)) ?_
   refine yN ?_
   dsimp only [St.put]
   refine ⟨_, ?_, ⟨⟨rfl, rfl⟩, zF, zB, zN, zX⟩⟩
   first
   | (rw [hb0]; exact uej hb0)
   | (cases hbf : gx (d8 p.pages.length s) b
      ·exact zh hb0 hbf
      exact uek hb0 hbf)
  rintro d hst
  dsimp only at hst ⊢
  refine ar rfl (fun hc => ?_) (fun hc => ?_)
  ·rw [hc, cond_true] at hst
   have hT1 := hst
   refine cw ?_
   refine K19 _ ?_
   refine yR ?_
   refine yM rfl rfl ?_
   refine aa rfl (bu rfl rfl rfl (by omega)) ?_
   refine yA rfl rfl ?_
   refine yN ?_
   dsimp only [St.put]
   first
   | (rw [← hT1]
      exact ⟨s + 1, by omega, by omega, ⟨⟨rfl, rfl⟩, zF, zB, zN, zX⟩⟩)
   | (rw [show d8 p.pages.length s = (dz (ii p m) p.pages.length (s + 1)).getD [] by rw [hT2]; rfl, show true = (dz (ii p m) p.pages.length (s + 1)).isSome by rw [hT2]; rfl]
      exact ⟨s + 1, by omega, by omega, ⟨⟨rfl, rfl⟩, zF, zB, zN, zX⟩⟩)
   | (rw [← hT3]
      exact ⟨s + 1, by omega, by omega, ⟨⟨rfl, rfl⟩, zF, zB, zN, zX⟩⟩)
  rw [hc, cond_false] at hst
  refine ax ?_
  refine K21 _ ?_
  refine yS fun _ K23 => ?_
  refine yR ?_
  refine yE rfl rfl rfl ?_
  refine yE rfl rfl rfl ?_
  refine yM rfl rfl ?_
  try dsimp only [St.put]
  refine aj rfl (bq rfl rfl rfl (uh9 p (d8 p.pages.length s) hok (by omega) hmm) ?_)
  refine yM rfl rfl ?_
  refine aa rfl (qs rfl rfl rfl) ?_
  refine yN ?_
  dsimp only [St.put]
  refine K23 _ ?_
  refine ar rfl (fun hc => ?_) (fun hc => ?_)
  ·have hcb : ii p m s = true := hc
   rw [hcb, cond_true] at hst
   have hT2 := hst
   refine yR ?_
   refine yM rfl rfl ?_
   refine yA rfl rfl ?_
   refine yA rfl rfl ?_
   refine yN ?_
   dsimp only [St.put]
   refine K19 _ ?_
   refine yR ?_
   refine yM rfl rfl ?_
   refine aa rfl (bu rfl rfl rfl (by omega)) ?_
   refine yA rfl rfl ?_
   refine yN ?_
   dsimp only [St.put]
   first
   | (rw [← hT1]
      exact ⟨s + 1, by omega, by omega, ⟨⟨rfl, rfl⟩, zF, zB, zN, zX⟩⟩)
   | (rw [show d8 p.pages.length s = (dz (ii p m) p.pages.length (s + 1)).getD [] by rw [hT2]; rfl, show true = (dz (ii p m) p.pages.length (s + 1)).isSome by rw [hT2]; rfl]
      exact ⟨s + 1, by omega, by omega, ⟨⟨rfl, rfl⟩, zF, zB, zN, zX⟩⟩)
   | (rw [← hT3]
      exact ⟨s + 1, by omega, by omega, ⟨⟨rfl, rfl⟩, zF, zB, zN, zX⟩⟩)
  have hcb : ii p m s = false := hc
  rw [hcb, cond_false] at hst
  have hT3 := hst
  refine ax ?_
  refine K19 _ ?_
  refine yR ?_
  refine yM rfl rfl ?_
  refine aa rfl (bu rfl rfl rfl (by omega)) ?_
  refine yA rfl rfl ?_
  refine yN ?_
  dsimp only [St.put]
  first
  | (rw [← hT1]
     exact ⟨s + 1, by omega, by omega, ⟨⟨rfl, rfl⟩, zF, zB, zN, zX⟩⟩)
  | (rw [show d8 p.pages.length s = (dz (ii p m) p.pages.length (s + 1)).getD [] by rw [hT2]; rfl, show true = (dz (ii p m) p.pages.length (s + 1)).isSome by rw [hT2]; rfl]
     exact ⟨s + 1, by omega, by omega, ⟨⟨rfl, rfl⟩, zF, zB, zN, zX⟩⟩)
  | (rw [← hT3]
     exact ⟨s + 1, by omega, by omega, ⟨⟨rfl, rfl⟩, zF, zB, zN, zX⟩⟩)
 replace hc := of_decide_eq_false hc
 obtain rfl : s = 2 ^ p.pages.length := by
  have : ¬ (s : Int) < ((2 ^ p.pages.length : Nat) : Int) := hc
  omega
 refine cw ?_
 refine K15 _ ?_
 refine yS fun _ K24 => ?_
 refine yR ?_
 refine yM rfl rfl ?_
 refine yA rfl rfl ?_
 refine yA rfl rfl ?_
 refine yN ?_
 dsimp only [St.put]
 refine K24 _ ?_
 refine aw ?_
 refine j5 rfl (fk (by constructor)) (fk (by constructor)) zN zS ?_ ?_
 ·rw [hV]; exact zW
 rw [hE]; exact zW
end Go.Proofs.YtgffhbbcpgdjjaaDoor
namespace Go.AB
open Go Go.RowKit
open Go.AB.Enc (cells)
open Go.PB (ay ak PlaceD bi bk bj bz av aq cy cx dp dm)
/-- whether a set is taken, and how often one was -/
def lk (so : Nat → Bool) (n k : Nat) : Bool := so k && match dz so n k with
 | none => true
 | some b => gx (d8 n k) b
def mj (so : Nat → Bool) (n : Nat) : Nat → Nat
 | 0 => 0
 | k + 1 => mj so n k + (lk so n k).toNat
theorem xa {so : Nat → Bool} {n k : Nat} (h : lk so n k = true) : dz so n (k + 1) = some (d8 n k) ∧ mj so n (k + 1) = mj so n k + 1 := by
 refine ⟨?_, by show mj so n k + (lk so n k).toNat = _; rw [h]; rfl⟩
 unfold lk at h
 rw [Bool.and_eq_true] at h
 cases hb : dz so n k with
 | none => exact uma hb h.1
 | some b =>
  have h2 := h.2
  rw [hb] at h2
  have h3 : gx (d8 n k) b = true := h2
  rw [ul9 hb h.1, h3]; rfl
theorem xb {so : Nat → Bool} {n k : Nat} (h : lk so n k = false) : dz so n (k + 1) = dz so n k ∧ mj so n (k + 1) = mj so n k := by
 refine ⟨?_, by show mj so n k + (lk so n k).toNat = _; rw [h]; rfl⟩
 unfold lk at h
 cases hs : so k
 ·exact ul8 hs
 rw [hs, Bool.true_and] at h
 cases hb : dz so n k with
 | none => rw [hb] at h; cases h
 | some b =>
  rw [hb] at h
  have h3 : gx (d8 n k) b = false := h
  rw [zh hb h3]
theorem uf7 {so : Nat → Bool} {n k : Nat} (h : so k = false) : lk so n k = false := by unfold lk; rw [h]; rfl
theorem uf8 {so : Nat → Bool} {n k : Nat} (h : so k = true) (hb : dz so n k = none) : lk so n k = true := by unfold lk; rw [h, hb]; rfl
theorem uc {so : Nat → Bool} {n k : Nat} {b : List Int} (h : so k = true) (hb : dz so n k = some b) : lk so n k = gx (d8 n k) b := by unfold lk; rw [h, hb]; rfl
end Go.AB
namespace Go.Proofs.YtgffhbbcpgdjjaaDoor
set_option maxRecDepth 10000
open Go Go.RowKit Go.AB
open Go.AB.Enc (cells)
open Go.PB (ay ak PlaceD bi bk bj bz av aq cy cx dp dm)
theorem ugy (m : Nat) : Pure Tryd.prog 49 [.v (.int .i64 (m : Int))] (.fn (.func 79) [.elem [.v (.int .i64 (m : Int))]]) := by
 refine cz Tryd.func49 rfl (fun m => (.fn (dd (.elem (dd .v eg)) eg))) fun G nx => ?_
 simp only [Tryd.ntmps49, List.length_cons, List.length_nil, Nat.reduceAdd, Nat.reduceSub]
 refine ci fun hlt => ?_
 dsimp only at hlt
 refine yS fun _ K1 => ?_
 refine yR ?_
 try dsimp only [St.put]
 refine yB rfl rfl rfl ?_
 refine yA rfl rfl ?_
 refine yN ?_
 dsimp only [St.put]
 refine K1 _ ?_
 refine yS fun _ K2 => ?_
 refine yR ?_
 refine aa rfl (qr rfl rfl) ?_
 refine yA rfl rfl ?_
 refine yN ?_
 dsimp only [St.put]
 refine K2 _ ?_
 refine aw ?_
 refine bg rfl (by constructor) zN zS ?_
 rfl
set_option maxHeartbeats 1000000 in
theorem uky (n : Nat) (m : Nat) (so : Nat → Bool) (k0 : FuncId) (caps : List C) [Fun Tryd.prog k0] (hm : m ≤ 8) (hcl : ∀ N, ∀ c ∈ caps, C.low N c) (hso : ∀ s : Nat, s < 2 ^ m → AB.Pure Tryd.prog k0 (.v (.int .i64 (s : Int)) :: lst (d8 m s) :: caps) (.v (.bool (so s)))) : n3 n m8 Tryd.prog 48 [.fn (.func 79) [.elem [.v (.int .i64 (m : Int))]], .fn (.func k0) caps, .fn (.func 53) []] (lst (qe so m)) := fun G nx hF hnx => by
 refine oe (G) (nx) Tryd.func48 rfl ((cg _ _)) zN (fun hlt => zH) ?_
 simp only [Tryd.ntmps48, List.length_cons, List.length_nil, Nat.reduceAdd, Nat.reduceSub]
 refine ci fun hlt => ?_
 dsimp only at hlt
 refine yS fun _ K1 => ?_
 refine yR ?_
 try dsimp only [St.put]
 refine yB rfl rfl rfl ?_
 try dsimp only [St.put]
 refine yB rfl rfl rfl ?_
 refine yA rfl rfl ?_
 refine yN ?_
 dsimp only [St.put]
 refine K1 _ ?_
 refine yS fun _ K2 => ?_
 refine yR ?_
 try dsimp only [St.put]
 refine aj rfl (eb rfl ?_)
 refine yN ?_
 dsimp only [St.put]
 refine K2 _ ?_
 refine yS fun _ K3 => ?_
 refine yR ?_
 try dsimp only [St.put]
 refine aj rfl (eb rfl ?_)
 try dsimp only [St.put]
 refine aj rfl (dj rfl rfl rfl zG rfl rfl (by rfl) ?_)
 refine yN ?_
 dsimp only [St.put]
 refine K3 _ ?_
 refine yS fun _ K4 => ?_
 refine yS fun _ K5 => ?_
 refine wt nx 0 [lst ([] : List Int)] zG zW ?_
 refine yR ?_
 refine yM rfl rfl ?_
 refine yN ?_
 dsimp only [St.put]
 refine K5 _ ?_
 refine az ?_
 refine ck 12 ?_
 refine zQ ?_
 refine c6 ((ai (ai G nx (.box (mj so m 0) [lst ((dz so m 0).getD [])])) (nx + 1) (.box (1 + mj so m 0) [.v (.bool (dz so m 0).isSome)]))) zX ?_
 dsimp only
 refine ueo [12, 13] (fun k => (ai (ai G nx (.box (mj so m k) [lst ((dz so m k).getD [])])) (nx + 1) (.box (1 + mj so m k) [.v (.bool (dz so m k).isSome)]))) (fun k => [(13, lst (d8 m k)), (12, .v (.int .i64 (k : Int)))]) (ugz n m hm) (fun k => zG) (by (try dsimp only); omega) rfl rfl (fun _ => rfl) ?_ ?_ ?_ (fun lr k hrk => ?_) ?_
 ·intro k
  rfl
 ·exact zX
 ·intro k
  exact zH
 ·have hbl := uel (so := so) (n := m) (k := k)
  have hml := p8 m k
  refine yS fun _ K6 => ?_
  refine yR ?_
  refine yA rfl rfl ?_
  refine yN ?_
  dsimp only [St.put]
  refine K6 _ ?_
  refine yR ?_
  refine yA rfl rfl ?_
  refine yN ?_
  dsimp only [St.put]
  show AW _ _ _ _ _
  refine az ?_
  refine yS fun _ K7 => ?_
  refine yR ?_
  refine yL rfl rfl rfl ?_
  refine yM rfl rfl ?_
  refine yM rfl rfl ?_
  try dsimp only [St.put]
  refine aj rfl (bq rfl rfl rfl (hso k hrk) ?_)
  refine yM rfl rfl ?_
  refine eo (fun hs => ?_) (fun hs => ?_)
  ·have hw : so k = true := hs
   try dsimp only [St.put]
   refine af rfl (c7 rfl rfl zG trivial (by first | rfl | assumption)) ?_
   refine aa rfl (ef rfl rfl) ?_
   refine yM rfl rfl ?_
   refine eo (fun hs => ?_) (fun hs => ?_)
   ·have hb0 : dz so m k = none := by simpa using hs
    have htk := xa (uf8 hw hb0)
    refine yK rfl ?_
    refine yK rfl ?_
    refine yK rfl ?_
    refine yK rfl ?_
    refine yK rfl ?_
    refine aa rfl (cm rfl rfl (by constructor)) ?_
    refine aa rfl (cm rfl rfl (by constructor)) ?_
    refine yN ?_
    dsimp only [St.put]
    refine K7 _ ?_
    refine ar rfl (fun _ => ?_) (fun h => by cases h)
    first
    | (have hbf : gx (d8 m k) b = true := (uk _ _).symm.trans hc
       have htk := xa ((uc hw hb0).trans hbf))
    | skip
    refine yR ?_
    refine yM rfl rfl ?_
    try dsimp only [St.put]
    refine aj rfl (dj rfl rfl rfl zG rfl rfl (by rfl) ?_)
    try dsimp only [St.put]
    refine aj rfl (dj rfl rfl rfl zG rfl rfl (by rfl) ?_)
    refine yN ?_
    dsimp only [St.put]
    dsimp only [ru, tx]
    first
    | (rw [htk.1, htk.2]
       exact zX)
    | (rw [hke.1, hke.2]
       try rw [hb0]
       exact zX)
   obtain ⟨b, hb0⟩ : ∃ b, dz so m k = some b := by
     cases hb : dz so m k with
     | none => rw [hb] at hs; cases hs
     | some b => exact ⟨b, rfl⟩
   rw [hb0] at hbl
   rw [hb0]
   have hbl2 : b.length ≤ m := hbl
   refine yL rfl rfl rfl ?_
   refine yM rfl rfl ?_
   try dsimp only [St.put]
   refine af rfl (c7 rfl rfl zG trivial (by first | rfl | assumption)) ?_
   try dsimp only [St.put]
   refine aj rfl (bq rfl rfl rfl (uim (d8 m k) b (by omega) (by omega)) ?_)
   refine aa rfl (cj rfl rfl rfl) ?_
   refine aa rfl (ce rfl rfl (by constructor)) ?_
   refine aa rfl (cm rfl rfl (by constructor)) ?_
   refine yN ?_
   dsimp only [St.put]
   refine K7 _ ?_
   refine ar rfl (fun hc => ?_) (fun hc => ?_)
   ·first
    | (have hbf : gx (d8 m k) b = true := (uk _ _).symm.trans hc
       have htk := xa ((uc hw hb0).trans hbf))
    | skip
    refine yR ?_
    refine yM rfl rfl ?_
    try dsimp only [St.put]
    refine aj rfl (dj rfl rfl rfl zG rfl rfl (by rfl) ?_)
    try dsimp only [St.put]
    refine aj rfl (dj rfl rfl rfl zG rfl rfl (by rfl) ?_)
    refine yN ?_
    dsimp only [St.put]
    dsimp only [ru, tx]
    first
    | (rw [htk.1, htk.2]
       exact zX)
    | (rw [hke.1, hke.2]
       try rw [hb0]
       exact zX)
   first
   | (have hbf : gx (d8 m k) b = false := (uk _ _).symm.trans hc
      have hke := xb ((uc hw hb0).trans hbf))
   | skip
   refine ax ?_
   dsimp only [ru, tx]
   first
   | (rw [htk.1, htk.2]
      exact zX)
   | (rw [hke.1, hke.2]
      try rw [hb0]
      exact zX)
  have hw : so k = false := hs
  have hke := xb (uf7 (n := m) hw)
  refine yK rfl ?_
  refine yK rfl ?_
  refine yK rfl ?_
  refine yK rfl ?_
  refine yK rfl ?_
  refine yK rfl ?_
  refine yK rfl ?_
  refine yK rfl ?_
  refine yK rfl ?_
  refine aa rfl (ce rfl rfl (by constructor)) ?_
  refine yN ?_
  dsimp only [St.put]
  refine K7 _ ?_
  refine ar rfl (fun h => by cases h) (fun _ => ?_)
  first
  | (have hbf : gx (d8 m k) b = false := (uk _ _).symm.trans hc
     have hke := xb ((uc hw hb0).trans hbf))
  | skip
  refine ax ?_
  dsimp only [ru, tx]
  first
  | (rw [htk.1, htk.2]
     exact zX)
  | (rw [hke.1, hke.2]
     try rw [hb0]
     exact zX)
 dsimp only
 refine K4 _ ?_
 refine yS fun _ K8 => ?_
 refine yR ?_
 try dsimp only [St.put]
 refine af rfl (c7 rfl rfl zG trivial (by first | rfl | assumption)) ?_
 refine yA rfl rfl ?_
 refine yN ?_
 dsimp only [St.put]
 refine K8 _ ?_
 refine aw ?_
 refine bg rfl (by constructor) zN zS ?_
 rfl
theorem uiu (p : aq) (m : Int) (s : Int) (l : List Int) (h : f5 p) (hl : l.length ≤ 1000) (hm : ∀ z ∈ l, 0 ≤ z ∧ z < (p.pages.length : Int)) : Pure Tryd.prog 50 [.v (.int .i64 s), lst l, .elem (cells (ie p (dh p) (dx p))), .elem [.v (.int .i64 m)]] (.v (.bool (decide (zq p l ≤ m)))) := by
 refine cz Tryd.func50 rfl (fun m => .v) fun G nx => ?_
 simp only [Tryd.ntmps50, List.length_cons, List.length_nil, Nat.reduceAdd, Nat.reduceSub]
 refine ci fun hlt => ?_
 dsimp only at hlt
 refine yS fun _ K1 => ?_
 refine yR ?_
 refine yA rfl rfl ?_
 refine yN ?_
 dsimp only [St.put]
 refine K1 _ ?_
 refine yS fun _ K2 => ?_
 refine yR ?_
 refine yE rfl rfl rfl ?_
 try dsimp only [St.put]
 refine aj rfl (eb rfl ?_)
 try dsimp only [St.put]
 refine aj rfl (dj rfl rfl rfl zG rfl rfl (by rfl) ?_)
 refine yN ?_
 dsimp only [St.put]
 rw [show cells (ie p (dh p) (dx p)) = cells (ie p (dh p) (jp (dx p) (l.take 0))) by rw [List.take_zero, zv]]
 refine K2 _ ?_
 refine yS fun _ K3 => ?_
 refine yS fun _ K4 => ?_
 refine yR ?_
 refine yM rfl rfl ?_
 refine aa rfl (ba rfl rfl (List.length_map _)) ?_
 refine yM rfl rfl ?_
 refine yN ?_
 dsimp only [St.put]
 refine K4 _ ?_
 refine az ?_
 refine ck 14 ?_
 refine zQ ?_
 refine c6 ((ai G nx (.box (0 + 1) (cells (ie p (dh p) (jp (dx p) (l.take 0))))))) zX ?_
 dsimp only
 refine c5 (X := Nat) (fun k => k ≤ l.length) (fun k => l.length - k) (fun k => [(8, .any), (9, .any), (13, .v (.int .i64 (k : Int)))]) (fun k G' => (ai G nx (.box (k + 1) (cells (ie p (dh p) (jp (dx p) (l.take k))))))) 0 rfl ?_ ?_ ?_ ?_ ?_ ?_
 ·exact Nat.zero_le _
 ·exact zF
 ·exact zX
 ·rintro k hI
  exact zL
 ·rintro k hI
  exact zH
 rintro k hI
 dsimp only at hI ⊢
 refine yS fun _ K5 => ?_
 refine yR ?_
 refine aa rfl (cj rfl rfl rfl) ?_
 refine yN ?_
 dsimp only [St.put]
 refine K5 _ ?_
 refine yS fun _ K6 => ?_
 refine ar rfl (fun hc => ?_) (fun hc => ?_)
 ·replace hc := of_decide_eq_true hc
  obtain ⟨z0, hz0⟩ : ∃ z, l[k]? = some z := da (by omega)
  have hzb := hm z0 (fq hz0)
  obtain ⟨j, rfl⟩ : ∃ j : Nat, z0 = (j : Int) := ⟨z0.toNat, by omega⟩
  have hz := hz0
  obtain ⟨x, hx⟩ : ∃ x, p.pages[j]? = some x := da (by omega)
  have hB := wo (wr h) (l.take k)
  refine ax ?_
  refine K6 _ ?_
  refine yS fun _ K7 => ?_
  refine az ?_
  refine yS fun _ K8 => ?_
  refine yR ?_
  refine aa rfl (bn rfl rfl rfl rfl (bp (by assumption)) (Enc.len _)) ?_
  refine yL rfl rfl rfl ?_
  refine yA rfl rfl ?_
  refine yN ?_
  dsimp only [St.put]
  refine K8 _ ?_
  refine yR ?_
  try dsimp only [St.put]
  refine af rfl (d7 rfl rfl zG trivial (by rfl)) ?_
  refine yM rfl rfl ?_
  try dsimp only [St.put]
  refine aj rfl (bq rfl rfl rfl (uih p (dh p) (jp (dx p) (l.take k)) j x 0 h hx (by omega) hB.r) ?_)
  try dsimp only [St.put]
  refine aj rfl (dj rfl rfl rfl zG rfl rfl (by rfl) ?_)
  refine yN ?_
  dsimp only [St.put]
  refine K7 _ ?_
  refine yR ?_
  refine aa rfl (bu rfl rfl rfl (by omega)) ?_
  refine yM rfl rfl ?_
  refine yN ?_
  dsimp only [St.put]
  rw [uct, ← zu, ← uae hz]
  exact ⟨k + 1, by omega, by omega, ⟨⟨rfl, rfl⟩, zF, zB, zN, zX⟩⟩
 replace hc := of_decide_eq_false hc
 rw [ff (show l.length ≤ k by omega)]
 refine cw ?_
 refine K3 _ ?_
 refine yS fun _ K9 => ?_
 refine fm [(0, none), (2, none), (1, none), (3, none), (4, none)] (fun i => [].contains i) (fun i => [1].contains i) (fun i => [3, 4].contains i) [nx] (by kernel_rfl) (by kernel_rfl) ?_
 try dsimp only [St.put]
 refine ah rfl rfl rfl rfl (d7 rfl rfl zG (by simp) (by rfl)) ?_
 try dsimp only [St.put]
 refine ah rfl rfl rfl rfl (bf rfl rfl) ?_
 refine il ?_
 try dsimp only [St.put]
 refine ib rfl rfl rfl (bq rfl rfl rfl (uir p (dh p) (jp (dx p) l) h (wo (wr h) l)) ⟨zD, ?_⟩)
 refine ep rfl rfl rfl rfl (qs rfl rfl rfl) ?_
 refine ep rfl rfl rfl rfl (du rfl (by constructor)) ?_
 refine ij ?_
 dsimp only [St.put]
 refine K9 _ ?_
 refine aw ?_
 refine bg rfl (by constructor) zN zS ?_
 rfl
theorem uhf (p : aq) (R Q : Nat → Int) (a : Int) (N : Nat) : ∀ c ∈ [C.elem (cells (ie p R Q)), C.elem [C.v (.int .i64 a)]], C.low N c := dd (gd _ _) (dd (.elem (dd .v eg)) eg)
set_option maxHeartbeats 1000000 in
theorem uit (n : Nat) (p : aq) (m : Int) : n3 n m8 Tryd.prog 22 [val p, .v (.int .i64 m)] (.tup [lst (ji p m), .v (.int .i64 (jj p m))]) := fun G nx hF hnx => by
 refine oe (G) (nx) Tryd.func22 rfl (.tup (dd (cg _ _) (dd .v eg))) zN (fun hlt => zH) ?_
 simp only [Tryd.ntmps22, List.length_cons, List.length_nil, Nat.reduceAdd, Nat.reduceSub]
 refine ci fun hlt => ?_
 dsimp only at hlt
 refine yS fun _ K1 => ?_
 refine yR ?_
 try dsimp only [St.put]
 refine yB rfl rfl rfl ?_
 try dsimp only [St.put]
 refine yB rfl rfl rfl ?_
 refine yA rfl rfl ?_
 refine yA rfl rfl ?_
 refine yN ?_
 dsimp only [St.put]
 refine K1 _ ?_
 refine yS fun _ K2 => ?_
 refine yR ?_
 refine yE rfl rfl rfl ?_
 try dsimp only [St.put]
 refine aj rfl (rf rfl rfl rfl (ui4 n p) zG (by dsimp only [St.put]; omega) ?_)
 refine yM rfl rfl ?_
 refine yX rfl rfl rfl rfl ?_
 refine yX rfl rfl rfl rfl ?_
 refine yA rfl rfl ?_
 refine yA rfl rfl ?_
 refine yN ?_
 dsimp only [St.put]
 refine K2 _ ?_
 refine yS fun _ K3 => ?_
 refine yS fun _ K4 => ?_
 refine yR ?_
 refine yM rfl rfl ?_
 refine aa rfl (i0 rfl rfl rfl) ?_
 refine yN ?_
 dsimp only [St.put]
 refine K4 _ ?_
 refine ar rfl (fun hc => ?_) (fun hc => ?_)
 ·have h0 : ey p ≠ 0 := ka hc
  have hE : jj p m = ey p := uea h0
  have hV : ji p m = [] := by unfold ji; rw [hE, rh h0]
  refine yS fun _ K5 => ?_
  refine yR ?_
  refine yM rfl rfl ?_
  refine yA rfl rfl ?_
  refine yA rfl rfl ?_
  refine yN ?_
  dsimp only [St.put]
  refine K5 _ ?_
  refine aw ?_
  refine j5 rfl (fk (by constructor)) (fk (by constructor)) zN zS ?_ ?_
  ·rw [hV]; exact zW
  rw [hE]; exact zW
 have h0 : ey p = 0 := jd hc
 obtain ⟨hok, _⟩ := zd h0
 have hnp := hok.np
 refine ax ?_
 refine K3 _ ?_
 refine yS fun _ K6 => ?_
 refine yS fun _ K7 => ?_
 refine yR ?_
 refine yL rfl rfl rfl ?_
 refine aa rfl (cj rfl rfl rfl) ?_
 refine yN ?_
 dsimp only [St.put]
 refine K7 _ ?_
 refine ar rfl (fun hc => ?_) (fun hc => ?_)
 ·have hm : m < 0 := of_decide_eq_true hc
  have hE : jj p m = 2 := ud9 h0 hm
  have hV : ji p m = [] := by unfold ji; rw [hE, rh (by decide)]
  refine yS fun _ K8 => ?_
  refine yR ?_
  refine yA rfl rfl ?_
  refine yA rfl rfl ?_
  refine yN ?_
  dsimp only [St.put]
  refine K8 _ ?_
  refine aw ?_
  refine j5 rfl (fk (by constructor)) (fk (by constructor)) zN zS ?_ ?_
  ·rw [hV]; exact zW
  rw [hE]; exact zW
 have hm : ¬ m < 0 := of_decide_eq_false hc
 refine ax ?_
 refine K6 _ ?_
 refine yS fun _ K9 => ?_
 by_cases hL : k8 p (ey p) = 0
 ·refine yR ?_
  refine yM rfl rfl ?_
  refine yM rfl rfl ?_
  try dsimp only [St.put]
  refine aj rfl (rf rfl rfl rfl (uij n p (nd p) (ey p) uec hL) zG (by dsimp only [St.put]; omega) ?_)
  refine yM rfl rfl ?_
  refine yX rfl rfl rfl rfl ?_
  refine yX rfl rfl rfl rfl ?_
  try dsimp only [St.put]
  refine aj rfl (eb rfl ?_)
  try dsimp only [St.put]
  refine aj rfl (dj rfl rfl rfl zG rfl rfl (by rfl) ?_)
  refine yA rfl rfl ?_
  refine yN ?_
  dsimp only [St.put]
  refine K9 _ ?_
  refine gt (i := 8) rfl zG zC ?_
  dsimp only
  refine yS fun _ K10 => ?_
  refine yS fun _ K11 => ?_
  refine yR ?_
  refine yM rfl rfl ?_
  refine aa rfl (i0 rfl rfl rfl) ?_
  refine yN ?_
  dsimp only [St.put]
  refine K11 _ ?_
  refine ar rfl (fun hc => ?_) (fun hc => ?_)
  ·exact absurd hc (by decide)
  have hTB := (uka hL).2
  have hE : jj p m = 0 := ud8 h0 hm hTB
  have hV : ji p m = qe (ii p m) p.pages.length := by unfold ji; rw [hE, uev]
  refine ax ?_
  refine K10 _ ?_
  refine yS fun _ K12 => ?_
  refine yR ?_
  refine yF rfl rfl rfl rfl ?_
  refine yL rfl rfl rfl ?_
  refine aa rfl (ba rfl rfl (List.length_map _)) ?_
  try dsimp only [St.put]
  refine aj rfl (bq rfl rfl rfl (ugy p.pages.length) ?_)
  refine aa rfl (qr rfl rfl) ?_
  try dsimp only [St.put]
  refine aj rfl (rf rfl rfl rfl (uky n p.pages.length (ii p m) 50 [.elem (cells (ie p (dh p) (dx p))), .elem [.v (.int .i64 m)]] hnp (uhf p _ _ _) (fun s _ => uiu p m s _ hok (by have := p8 p.pages.length s; omega) (fun z hz => by obtain ⟨i, rfl, hi, _⟩ := membersL_mem.1 hz; omega))) zG (by dsimp only [St.put]; omega) ?_)
  refine yA rfl rfl ?_
  refine yA rfl rfl ?_
  refine yN ?_
  dsimp only [St.put]
  refine K12 _ ?_
  refine aw ?_
  refine j5 rfl (fk (by constructor)) (fk (by constructor)) zN zS ?_ ?_
  ·rw [hV]; exact zW
  rw [hE]; exact zW
 refine yR ?_
 refine yM rfl rfl ?_
 refine yM rfl rfl ?_
 try dsimp only [St.put]
 refine aj rfl (rf rfl rfl rfl (uik n p (nd p) (ey p) uec hL) zG (by dsimp only [St.put]; omega) ?_)
 refine yM rfl rfl ?_
 refine yX rfl rfl rfl rfl ?_
 refine yX rfl rfl rfl rfl ?_
 try dsimp only [St.put]
 refine aj rfl (eb rfl ?_)
 try dsimp only [St.put]
 refine aj rfl (dj rfl rfl rfl zG rfl rfl (by rfl) ?_)
 refine yA rfl rfl ?_
 refine yN ?_
 dsimp only [St.put]
 refine K9 _ ?_
 refine gt (i := 8) rfl zG zC ?_
 dsimp only
 refine yS fun _ K13 => ?_
 refine yS fun _ K14 => ?_
 refine yR ?_
 refine yM rfl rfl ?_
 refine aa rfl (i0 rfl rfl rfl) ?_
 refine yN ?_
 dsimp only [St.put]
 refine K14 _ ?_
 refine ar rfl (fun hc => ?_) (fun hc => ?_)
 ·have hTB : iz p = false := by
   cases h : iz p
   ·rfl
   exact absurd (by rw [h0, sy, h]; rfl) hL
  have hE : jj p m = 8 := ueb h0 hm hTB
  have hV : ji p m = [] := by unfold ji; rw [hE, rh (by decide)]
  have hL8 : k8 p (ey p) = 8 := by rw [h0, sy, hTB]; rfl
  refine yS fun _ K15 => ?_
  refine yR ?_
  refine yM rfl rfl ?_
  refine yA rfl rfl ?_
  refine yA rfl rfl ?_
  refine yN ?_
  dsimp only [St.put]
  refine K15 _ ?_
  refine aw ?_
  refine j5 rfl (fk (by constructor)) (fk (by constructor)) zN zS ?_ ?_
  ·rw [hV]; exact zW
  rw [hE, hL8]; exact zW
 exact absurd (jd hc) hL
end Go.Proofs.YtgffhbbcpgdjjaaDoor
namespace Go.AB
open Go Go.RowKit
open Go.AB.Enc (cells)
open Go.PB (ay ak PlaceD bi bk bj bz av aq cy cx dp dm)
section
variable {P : Program} {o : Oper} {st : St} {K : St → Prop}
end
end Go.AB
namespace Go.Proofs.YtgffhbbcpgdjjaaDoor
set_option maxRecDepth 10000
open Go Go.RowKit Go.AB
open Go.AB.Enc (cells)
open Go.PB (ay ak PlaceD bi bk bj bz av aq cy cx dp dm)
theorem ukh (a : List Int) (ha : a.length ≤ 1000) : Pure Tryd.prog 24 [lst a, lst a] (.v (.bool true)) := by
 have := uh3 a a ha
 rwa [decide_eq_true rfl] at this
end Go.Proofs.YtgffhbbcpgdjjaaDoor
namespace Go.AB
open Go Go.RowKit
open Go.AB.Enc (cells)
open Go.PB (ay ak PlaceD bi bk bj bz av aq cy cx)
end Go.AB
namespace Go.AB
open Go Go.RowKit
open Go.AB.Enc (cells)
open Go.PB (ay ak PlaceD bi bk bj bz av aq cy cx dp dm)
section
variable {p : aq} {i : Nat} {x : av}
end
end Go.AB
namespace Go.Proofs.YtgffhbbcpgdjjaaDoor
set_option maxRecDepth 10000
open Go Go.RowKit Go.AB
open Go.AB.Enc (cells)
open Go.PB (ay ak PlaceD bi bk bj bz av aq cy cx dp dm)
section
variable {p : aq} {i : Nat} {x : av}
end
end Go.Proofs.YtgffhbbcpgdjjaaDoor
namespace Go.AB
open Go Go.RowKit
open Go.AB.Enc (cells)
open Go.PB (ay ak PlaceD bi bk bj bz av aq cy cx dp dm)
end Go.AB
namespace Go.Proofs.YtgffhbbcpgdjjaaDoor
set_option maxRecDepth 10000
open Go Go.RowKit Go.AB
open Go.AB.Enc (cells)
open Go.PB (ay ak PlaceD bi bk bj bz av aq cy cx dp dm)
end Go.Proofs.YtgffhbbcpgdjjaaDoor
namespace Go.AB
open Go Go.RowKit
open Go.AB.Enc (cells)
open Go.PB (ay ak PlaceD bi bk bj bz av aq cy cx)
def twD (i : Nat) : Bool := [3, 5, 6, 7, 8, 9, 10, 11, 12, 13, 14, 15, 16, 17, 18, 19, 20].contains i
structure TwS (p : aq) (eR eP : TypeId) (G0 : Nat → Option GObj) (n0 nn df : Nat) (l0 : List C) (A0 : Nat → C) (b2 b3 b6 b7 b10 b11 b14 b15 b16 b17 : Bool) (st : St) (a b c d va vb vc : Nat) : Prop where
 n : st.n = nn
 df : st.df = df
 l : st.l = l0
 nx : st.nx = n0 + b3.toNat + b7.toNat + b11.toNat + b16.toNat
 s : ∀ i, twD i = false → bx st.l st.r i = A0 i
 x10 : bx st.l st.r 10 = lst p.firsts
 x14 : bx st.l st.r 14 = lst p.seconds
 x18 : bx st.l st.r 18 = lst p.pages
 x6 : bx st.l st.r 6 = fj p.text
 f2 : b2 = true → bx st.l st.r 7 = fj p.text
 f3 : b3 = true → bx st.l st.r 8 = .own a 0 0
 r3 : b3 = true → n0 ≤ a ∧ a < st.nx
 g3 : b3 = true → b6 = false → st.G a = some (.arr 0 0 eR 2 0 [])
 f6 : b6 = true → bx st.l st.r 11 = .own a va p.firsts.length
 g6 : b6 = true → st.G a = some (.arr va 0 eR 2 p.firsts.length (ct p.firsts))
 f7 : b7 = true → bx st.l st.r 12 = .own b 0 0
 r7 : b7 = true → n0 ≤ b ∧ b < st.nx
 g7 : b7 = true → b10 = false → st.G b = some (.arr 0 0 eR 2 0 [])
 f10 : b10 = true → bx st.l st.r 15 = .own b vb p.seconds.length
 g10 : b10 = true → st.G b = some (.arr vb 0 eR 2 p.seconds.length (ct p.seconds))
 f11 : b11 = true → bx st.l st.r 16 = .own c 0 0
 r11 : b11 = true → n0 ≤ c ∧ c < st.nx
 g11 : b11 = true → b14 = false → st.G c = some (.arr 0 0 eP 6 0 [])
 f14 : b14 = true → bx st.l st.r 19 = .own c vc p.pages.length
 g14 : b14 = true → st.G c = some (.arr vc 0 eP 6 p.pages.length (ct p.pages))
 f15 : b15 = true → bx st.l st.r 20 = .agg [lst p.text, .own a va p.firsts.length, .own b vb p.seconds.length, .own c vc p.pages.length]
 f16 : b16 = true → bx st.l st.r 3 = .box d 0 0
 r16 : b16 = true → n0 ≤ d ∧ d < st.nx
 g16 : b16 = true → b17 = false → st.G d = some (.box 0 [.list [] .nil, .list [] .nil, .list [] .nil, .list [] .nil])
 f17 : b17 = true → st.G d = some (.box 1 [lst p.text, .own a va p.firsts.length, .own b vb p.seconds.length, .own c vc p.pages.length])
 ab : b3 = true → b7 = true → a ≠ b
 ac : b3 = true → b11 = true → a ≠ c
 ad : b3 = true → b16 = true → a ≠ d
 bc : b7 = true → b11 = true → b ≠ c
 bd : b7 = true → b16 = true → b ≠ d
 cd : b11 = true → b16 = true → c ≠ d
 G : ∀ m, (b3 = true → m ≠ a) → (b7 = true → m ≠ b) → (b11 = true → m ≠ c) → (b16 = true → m ≠ d) → st.G m = G0 m
 e6 : b6 = true → b3 = true
 e10 : b10 = true → b7 = true
 e14 : b14 = true → b11 = true
 e17 : b17 = true → b16 = true
 e18 : b17 = true → b15 = true
 q2 : b15 = true → b2 = true
 q6 : b15 = true → b6 = true
 q10 : b15 = true → b10 = true
 q14 : b15 = true → b14 = true
section
variable {p : aq} {eR eP : TypeId} {G0 : Nat → Option GObj} {n0 nn df : Nat} {l0 : List C} {A0 : Nat → C} {b2 b3 b6 b7 b10 b11 b14 b15 b16 b17 : Bool} {st : St} {a b c d va vb vc : Nat}
theorem n7 {i j : Nat} (h : twD i = false) (k : twD j = true) : Nat.beq j i = false := by
 cases e : Nat.beq j i
 ·rfl
 ·rw [Nat.eq_of_beq_eq_true e, h] at k; cases k
theorem TwS.step2 (h : TwS p eR eP G0 n0 nn df l0 A0 false b3 b6 b7 b10 b11 b14 b15 b16 b17 st a b c d va vb vc) : TwS p eR eP G0 n0 nn df l0 A0 true b3 b6 b7 b10 b11 b14 b15 b16 b17 (st.put (some 7) (fj p.text)) a b c d va vb vc := by
 exact {
  n := h.n
  df := h.df
  l := h.l
  nx := h.nx
  s := fun i hi => by show (bif Nat.beq 7 i then _ else bx st.l st.r i) = _; rw [n7 hi rfl]; exact h.s i hi
  x10 := h.x10
  x14 := h.x14
  x18 := h.x18
  x6 := h.x6
  f2 := fun _ => rfl
  f3 := h.f3
  r3 := h.r3
  g3 := h.g3
  f6 := h.f6
  g6 := h.g6
  f7 := h.f7
  r7 := h.r7
  g7 := h.g7
  f10 := h.f10
  g10 := h.g10
  f11 := h.f11
  r11 := h.r11
  g11 := h.g11
  f14 := h.f14
  g14 := h.g14
  f15 := h.f15
  f16 := h.f16
  r16 := h.r16
  g16 := h.g16
  f17 := h.f17
  ab := h.ab
  ac := h.ac
  ad := h.ad
  bc := h.bc
  bd := h.bd
  cd := h.cd
  G := h.G
  e6 := h.e6
  e10 := h.e10
  e14 := h.e14
  e17 := h.e17
  e18 := h.e18
  q2 := fun _ => rfl
  q6 := h.q6
  q10 := h.q10
  q14 := h.q14 }
theorem TwS.step3 (h : TwS p eR eP G0 n0 nn df l0 A0 b2 false b6 b7 b10 b11 b14 b15 b16 b17 st a b c d va vb vc) (k : b6 = false) (k15 : b15 = false) : TwS p eR eP G0 n0 nn df l0 A0 b2 true b6 b7 b10 b11 b14 b15 b16 b17 (St.put { st with G := ai st.G st.nx (.arr 0 0 eR 2 0 []), nx := st.nx + 1 } (some 8) (.own st.nx 0 0)) st.nx b c d va vb vc := by
 have hnx := h.nx
 subst k
 subst k15
 exact {
  n := h.n
  df := h.df
  l := h.l
  nx := by show st.nx + 1 = _; rw [hnx]; simp only [Bool.toNat_true, Bool.toNat_false] <;> omega
  s := fun i hi => by show (bif Nat.beq 8 i then _ else bx st.l st.r i) = _; rw [n7 hi rfl]; exact h.s i hi
  x10 := h.x10
  x14 := h.x14
  x18 := h.x18
  x6 := h.x6
  f2 := h.f2
  f3 := fun _ => rfl
  r3 := fun _ => ⟨by omega, Nat.lt_succ_self _⟩
  g3 := fun _ _ => jw _ _ _
  f6 := fun e => nomatch e
  g6 := fun e => nomatch e
  f7 := h.f7
  r7 := fun e => ⟨(h.r7 e).1, Nat.lt_succ_of_lt (h.r7 e).2⟩
  g7 := fun e f => (dc (Nat.ne_of_lt (h.r7 e).2)).trans (h.g7 e f)
  f10 := h.f10
  g10 := fun f => have e := h.e10 f; (dc (Nat.ne_of_lt (h.r7 e).2)).trans (h.g10 f)
  f11 := h.f11
  r11 := fun e => ⟨(h.r11 e).1, Nat.lt_succ_of_lt (h.r11 e).2⟩
  g11 := fun e f => (dc (Nat.ne_of_lt (h.r11 e).2)).trans (h.g11 e f)
  f14 := h.f14
  g14 := fun f => have e := h.e14 f; (dc (Nat.ne_of_lt (h.r11 e).2)).trans (h.g14 f)
  f15 := fun e => nomatch e
  f16 := h.f16
  r16 := fun e => ⟨(h.r16 e).1, Nat.lt_succ_of_lt (h.r16 e).2⟩
  g16 := fun e f => (dc (Nat.ne_of_lt (h.r16 e).2)).trans (h.g16 e f)
  f17 := fun f => nomatch h.e18 f
  ab := fun _ e => (Nat.ne_of_lt (h.r7 e).2).symm
  ac := fun _ e => (Nat.ne_of_lt (h.r11 e).2).symm
  ad := fun _ e => (Nat.ne_of_lt (h.r16 e).2).symm
  bc := h.bc
  bd := h.bd
  cd := h.cd
  G := fun m h1 h2 h3 h4 => (dc (h1 rfl)).trans (h.G m (fun e => nomatch e) h2 h3 h4)
  e6 := fun e => nomatch e
  e10 := h.e10
  e14 := h.e14
  e17 := h.e17
  e18 := h.e18
  q2 := h.q2
  q6 := h.q6
  q10 := h.q10
  q14 := h.q14 }
theorem TwS.step6 (h : TwS p eR eP G0 n0 nn df l0 A0 b2 true false b7 b10 b11 b14 b15 b16 b17 st a b c d va vb vc) (k15 : b15 = false) (w : Nat) : TwS p eR eP G0 n0 nn df l0 A0 b2 true true b7 b10 b11 b14 b15 b16 b17 (St.put { st with G := ai st.G a (.arr w 0 eR 2 p.firsts.length (ct p.firsts)) } (some 11) (.own a w p.firsts.length)) a b c d w vb vc := by
 subst k15
 exact {
  n := h.n
  df := h.df
  l := h.l
  nx := h.nx
  s := fun i hi => by show (bif Nat.beq 11 i then _ else bx st.l st.r i) = _; rw [n7 hi rfl]; exact h.s i hi
  x10 := h.x10
  x14 := h.x14
  x18 := h.x18
  x6 := h.x6
  f2 := h.f2
  f3 := h.f3
  r3 := h.r3
  g3 := fun _ e => nomatch e
  f6 := fun _ => rfl
  g6 := fun _ => jw _ _ _
  f7 := h.f7
  r7 := h.r7
  g7 := fun e f => (dc (h.ab rfl e).symm).trans (h.g7 e f)
  f10 := h.f10
  g10 := fun f => have e := h.e10 f; (dc (h.ab rfl e).symm).trans (h.g10 f)
  f11 := h.f11
  r11 := h.r11
  g11 := fun e f => (dc (h.ac rfl e).symm).trans (h.g11 e f)
  f14 := h.f14
  g14 := fun f => have e := h.e14 f; (dc (h.ac rfl e).symm).trans (h.g14 f)
  f15 := fun e => nomatch e
  f16 := h.f16
  r16 := h.r16
  g16 := fun e f => (dc (h.ad rfl e).symm).trans (h.g16 e f)
  f17 := fun f => nomatch h.e18 f
  ab := h.ab
  ac := h.ac
  ad := h.ad
  bc := h.bc
  bd := h.bd
  cd := h.cd
  G := fun m h1 h2 h3 h4 => (dc (h1 rfl)).trans (h.G m h1 h2 h3 h4)
  e6 := fun _ => rfl
  e10 := h.e10
  e14 := h.e14
  e17 := h.e17
  e18 := h.e18
  q2 := h.q2
  q6 := fun _ => rfl
  q10 := h.q10
  q14 := h.q14 }
theorem TwS.step7 (h : TwS p eR eP G0 n0 nn df l0 A0 b2 b3 b6 false b10 b11 b14 b15 b16 b17 st a b c d va vb vc) (k : b10 = false) (k15 : b15 = false) : TwS p eR eP G0 n0 nn df l0 A0 b2 b3 b6 true b10 b11 b14 b15 b16 b17 (St.put { st with G := ai st.G st.nx (.arr 0 0 eR 2 0 []), nx := st.nx + 1 } (some 12) (.own st.nx 0 0)) a st.nx c d va vb vc := by
 have hnx := h.nx
 subst k
 subst k15
 exact {
  n := h.n
  df := h.df
  l := h.l
  nx := by show st.nx + 1 = _; rw [hnx]; simp only [Bool.toNat_true, Bool.toNat_false] <;> omega
  s := fun i hi => by show (bif Nat.beq 12 i then _ else bx st.l st.r i) = _; rw [n7 hi rfl]; exact h.s i hi
  x10 := h.x10
  x14 := h.x14
  x18 := h.x18
  x6 := h.x6
  f2 := h.f2
  f3 := h.f3
  r3 := fun e => ⟨(h.r3 e).1, Nat.lt_succ_of_lt (h.r3 e).2⟩
  g3 := fun e f => (dc (Nat.ne_of_lt (h.r3 e).2)).trans (h.g3 e f)
  f6 := h.f6
  g6 := fun f => have e := h.e6 f; (dc (Nat.ne_of_lt (h.r3 e).2)).trans (h.g6 f)
  f7 := fun _ => rfl
  r7 := fun _ => ⟨by omega, Nat.lt_succ_self _⟩
  g7 := fun _ _ => jw _ _ _
  f10 := fun e => nomatch e
  g10 := fun e => nomatch e
  f11 := h.f11
  r11 := fun e => ⟨(h.r11 e).1, Nat.lt_succ_of_lt (h.r11 e).2⟩
  g11 := fun e f => (dc (Nat.ne_of_lt (h.r11 e).2)).trans (h.g11 e f)
  f14 := h.f14
  g14 := fun f => have e := h.e14 f; (dc (Nat.ne_of_lt (h.r11 e).2)).trans (h.g14 f)
  f15 := fun e => nomatch e
  f16 := h.f16
  r16 := fun e => ⟨(h.r16 e).1, Nat.lt_succ_of_lt (h.r16 e).2⟩
  g16 := fun e f => (dc (Nat.ne_of_lt (h.r16 e).2)).trans (h.g16 e f)
  f17 := fun f => nomatch h.e18 f
  ab := fun e _ => Nat.ne_of_lt (h.r3 e).2
  ac := h.ac
  ad := h.ad
  bc := fun _ e => (Nat.ne_of_lt (h.r11 e).2).symm
  bd := fun _ e => (Nat.ne_of_lt (h.r16 e).2).symm
  cd := h.cd
  G := fun m h1 h2 h3 h4 => (dc (h2 rfl)).trans (h.G m h1 (fun e => nomatch e) h3 h4)
  e6 := h.e6
  e10 := fun e => nomatch e
  e14 := h.e14
  e17 := h.e17
  e18 := h.e18
  q2 := h.q2
  q6 := h.q6
  q10 := h.q10
  q14 := h.q14 }
theorem TwS.step10 (h : TwS p eR eP G0 n0 nn df l0 A0 b2 b3 b6 true false b11 b14 b15 b16 b17 st a b c d va vb vc) (k15 : b15 = false) (w : Nat) : TwS p eR eP G0 n0 nn df l0 A0 b2 b3 b6 true true b11 b14 b15 b16 b17 (St.put { st with G := ai st.G b (.arr w 0 eR 2 p.seconds.length (ct p.seconds)) } (some 15) (.own b w p.seconds.length)) a b c d va w vc := by
 subst k15
 exact {
  n := h.n
  df := h.df
  l := h.l
  nx := h.nx
  s := fun i hi => by show (bif Nat.beq 15 i then _ else bx st.l st.r i) = _; rw [n7 hi rfl]; exact h.s i hi
  x10 := h.x10
  x14 := h.x14
  x18 := h.x18
  x6 := h.x6
  f2 := h.f2
  f3 := h.f3
  r3 := h.r3
  g3 := fun e f => (dc (h.ab e rfl)).trans (h.g3 e f)
  f6 := h.f6
  g6 := fun f => have e := h.e6 f; (dc (h.ab e rfl)).trans (h.g6 f)
  f7 := h.f7
  r7 := h.r7
  g7 := fun _ e => nomatch e
  f10 := fun _ => rfl
  g10 := fun _ => jw _ _ _
  f11 := h.f11
  r11 := h.r11
  g11 := fun e f => (dc (h.bc rfl e).symm).trans (h.g11 e f)
  f14 := h.f14
  g14 := fun f => have e := h.e14 f; (dc (h.bc rfl e).symm).trans (h.g14 f)
  f15 := fun e => nomatch e
  f16 := h.f16
  r16 := h.r16
  g16 := fun e f => (dc (h.bd rfl e).symm).trans (h.g16 e f)
  f17 := fun f => nomatch h.e18 f
  ab := h.ab
  ac := h.ac
  ad := h.ad
  bc := h.bc
  bd := h.bd
  cd := h.cd
  G := fun m h1 h2 h3 h4 => (dc (h2 rfl)).trans (h.G m h1 h2 h3 h4)
  e6 := h.e6
  e10 := fun _ => rfl
  e14 := h.e14
  e17 := h.e17
  e18 := h.e18
  q2 := h.q2
  q6 := h.q6
  q10 := fun _ => rfl
  q14 := h.q14 }
theorem TwS.step11 (h : TwS p eR eP G0 n0 nn df l0 A0 b2 b3 b6 b7 b10 false b14 b15 b16 b17 st a b c d va vb vc) (k : b14 = false) (k15 : b15 = false) : TwS p eR eP G0 n0 nn df l0 A0 b2 b3 b6 b7 b10 true b14 b15 b16 b17 (St.put { st with G := ai st.G st.nx (.arr 0 0 eP 6 0 []), nx := st.nx + 1 } (some 16) (.own st.nx 0 0)) a b st.nx d va vb vc := by
 have hnx := h.nx
 subst k
 subst k15
 exact {
  n := h.n
  df := h.df
  l := h.l
  nx := by show st.nx + 1 = _; rw [hnx]; simp only [Bool.toNat_true, Bool.toNat_false] <;> omega
  s := fun i hi => by show (bif Nat.beq 16 i then _ else bx st.l st.r i) = _; rw [n7 hi rfl]; exact h.s i hi
  x10 := h.x10
  x14 := h.x14
  x18 := h.x18
  x6 := h.x6
  f2 := h.f2
  f3 := h.f3
  r3 := fun e => ⟨(h.r3 e).1, Nat.lt_succ_of_lt (h.r3 e).2⟩
  g3 := fun e f => (dc (Nat.ne_of_lt (h.r3 e).2)).trans (h.g3 e f)
  f6 := h.f6
  g6 := fun f => have e := h.e6 f; (dc (Nat.ne_of_lt (h.r3 e).2)).trans (h.g6 f)
  f7 := h.f7
  r7 := fun e => ⟨(h.r7 e).1, Nat.lt_succ_of_lt (h.r7 e).2⟩
  g7 := fun e f => (dc (Nat.ne_of_lt (h.r7 e).2)).trans (h.g7 e f)
  f10 := h.f10
  g10 := fun f => have e := h.e10 f; (dc (Nat.ne_of_lt (h.r7 e).2)).trans (h.g10 f)
  f11 := fun _ => rfl
  r11 := fun _ => ⟨by omega, Nat.lt_succ_self _⟩
  g11 := fun _ _ => jw _ _ _
  f14 := fun e => nomatch e
  g14 := fun e => nomatch e
  f15 := fun e => nomatch e
  f16 := h.f16
  r16 := fun e => ⟨(h.r16 e).1, Nat.lt_succ_of_lt (h.r16 e).2⟩
  g16 := fun e f => (dc (Nat.ne_of_lt (h.r16 e).2)).trans (h.g16 e f)
  f17 := fun f => nomatch h.e18 f
  ab := h.ab
  ac := fun e _ => Nat.ne_of_lt (h.r3 e).2
  ad := h.ad
  bc := fun e _ => Nat.ne_of_lt (h.r7 e).2
  bd := h.bd
  cd := fun _ e => (Nat.ne_of_lt (h.r16 e).2).symm
  G := fun m h1 h2 h3 h4 => (dc (h3 rfl)).trans (h.G m h1 h2 (fun e => nomatch e) h4)
  e6 := h.e6
  e10 := h.e10
  e14 := fun e => nomatch e
  e17 := h.e17
  e18 := h.e18
  q2 := h.q2
  q6 := h.q6
  q10 := h.q10
  q14 := h.q14 }
theorem TwS.step14 (h : TwS p eR eP G0 n0 nn df l0 A0 b2 b3 b6 b7 b10 true false b15 b16 b17 st a b c d va vb vc) (k15 : b15 = false) (w : Nat) : TwS p eR eP G0 n0 nn df l0 A0 b2 b3 b6 b7 b10 true true b15 b16 b17 (St.put { st with G := ai st.G c (.arr w 0 eP 6 p.pages.length (ct p.pages)) } (some 19) (.own c w p.pages.length)) a b c d va vb w := by
 subst k15
 exact {
  n := h.n
  df := h.df
  l := h.l
  nx := h.nx
  s := fun i hi => by show (bif Nat.beq 19 i then _ else bx st.l st.r i) = _; rw [n7 hi rfl]; exact h.s i hi
  x10 := h.x10
  x14 := h.x14
  x18 := h.x18
  x6 := h.x6
  f2 := h.f2
  f3 := h.f3
  r3 := h.r3
  g3 := fun e f => (dc (h.ac e rfl)).trans (h.g3 e f)
  f6 := h.f6
  g6 := fun f => have e := h.e6 f; (dc (h.ac e rfl)).trans (h.g6 f)
  f7 := h.f7
  r7 := h.r7
  g7 := fun e f => (dc (h.bc e rfl)).trans (h.g7 e f)
  f10 := h.f10
  g10 := fun f => have e := h.e10 f; (dc (h.bc e rfl)).trans (h.g10 f)
  f11 := h.f11
  r11 := h.r11
  g11 := fun _ e => nomatch e
  f14 := fun _ => rfl
  g14 := fun _ => jw _ _ _
  f15 := fun e => nomatch e
  f16 := h.f16
  r16 := h.r16
  g16 := fun e f => (dc (h.cd rfl e).symm).trans (h.g16 e f)
  f17 := fun f => nomatch h.e18 f
  ab := h.ab
  ac := h.ac
  ad := h.ad
  bc := h.bc
  bd := h.bd
  cd := h.cd
  G := fun m h1 h2 h3 h4 => (dc (h3 rfl)).trans (h.G m h1 h2 h3 h4)
  e6 := h.e6
  e10 := h.e10
  e14 := fun _ => rfl
  e17 := h.e17
  e18 := h.e18
  q2 := h.q2
  q6 := h.q6
  q10 := h.q10
  q14 := fun _ => rfl }
theorem TwS.step15 (h : TwS p eR eP G0 n0 nn df l0 A0 true b3 true b7 true b11 true false b16 b17 st a b c d va vb vc) : TwS p eR eP G0 n0 nn df l0 A0 true b3 true b7 true b11 true true b16 b17 (st.put (some 20) (.agg [lst p.text, .own a va p.firsts.length, .own b vb p.seconds.length, .own c vc p.pages.length])) a b c d va vb vc := by
 exact {
  n := h.n
  df := h.df
  l := h.l
  nx := h.nx
  s := fun i hi => by show (bif Nat.beq 20 i then _ else bx st.l st.r i) = _; rw [n7 hi rfl]; exact h.s i hi
  x10 := h.x10
  x14 := h.x14
  x18 := h.x18
  x6 := h.x6
  f2 := h.f2
  f3 := h.f3
  r3 := h.r3
  g3 := h.g3
  f6 := h.f6
  g6 := h.g6
  f7 := h.f7
  r7 := h.r7
  g7 := h.g7
  f10 := h.f10
  g10 := h.g10
  f11 := h.f11
  r11 := h.r11
  g11 := h.g11
  f14 := h.f14
  g14 := h.g14
  f15 := fun _ => rfl
  f16 := h.f16
  r16 := h.r16
  g16 := h.g16
  f17 := h.f17
  ab := h.ab
  ac := h.ac
  ad := h.ad
  bc := h.bc
  bd := h.bd
  cd := h.cd
  G := h.G
  e6 := h.e6
  e10 := h.e10
  e14 := h.e14
  e17 := h.e17
  e18 := fun _ => rfl
  q2 := fun _ => rfl
  q6 := fun _ => rfl
  q10 := fun _ => rfl
  q14 := fun _ => rfl }
theorem TwS.step16 (h : TwS p eR eP G0 n0 nn df l0 A0 b2 b3 b6 b7 b10 b11 b14 b15 false b17 st a b c d va vb vc) (k : b17 = false) : TwS p eR eP G0 n0 nn df l0 A0 b2 b3 b6 b7 b10 b11 b14 b15 true b17 (St.put { st with G := ai st.G st.nx (.box 0 [.list [] .nil, .list [] .nil, .list [] .nil, .list [] .nil]), nx := st.nx + 1 } (some 3) (.box st.nx 0 0)) a b c st.nx va vb vc := by
 have hnx := h.nx
 subst k
 exact {
  n := h.n
  df := h.df
  l := h.l
  nx := by show st.nx + 1 = _; rw [hnx]; simp only [Bool.toNat_true, Bool.toNat_false] <;> omega
  s := fun i hi => by show (bif Nat.beq 3 i then _ else bx st.l st.r i) = _; rw [n7 hi rfl]; exact h.s i hi
  x10 := h.x10
  x14 := h.x14
  x18 := h.x18
  x6 := h.x6
  f2 := h.f2
  f3 := h.f3
  r3 := fun e => ⟨(h.r3 e).1, Nat.lt_succ_of_lt (h.r3 e).2⟩
  g3 := fun e f => (dc (Nat.ne_of_lt (h.r3 e).2)).trans (h.g3 e f)
  f6 := h.f6
  g6 := fun f => have e := h.e6 f; (dc (Nat.ne_of_lt (h.r3 e).2)).trans (h.g6 f)
  f7 := h.f7
  r7 := fun e => ⟨(h.r7 e).1, Nat.lt_succ_of_lt (h.r7 e).2⟩
  g7 := fun e f => (dc (Nat.ne_of_lt (h.r7 e).2)).trans (h.g7 e f)
  f10 := h.f10
  g10 := fun f => have e := h.e10 f; (dc (Nat.ne_of_lt (h.r7 e).2)).trans (h.g10 f)
  f11 := h.f11
  r11 := fun e => ⟨(h.r11 e).1, Nat.lt_succ_of_lt (h.r11 e).2⟩
  g11 := fun e f => (dc (Nat.ne_of_lt (h.r11 e).2)).trans (h.g11 e f)
  f14 := h.f14
  g14 := fun f => have e := h.e14 f; (dc (Nat.ne_of_lt (h.r11 e).2)).trans (h.g14 f)
  f15 := h.f15
  f16 := fun _ => rfl
  r16 := fun _ => ⟨by omega, Nat.lt_succ_self _⟩
  g16 := fun _ _ => jw _ _ _
  f17 := fun e => nomatch e
  ab := h.ab
  ac := h.ac
  ad := fun e _ => Nat.ne_of_lt (h.r3 e).2
  bc := h.bc
  bd := fun e _ => Nat.ne_of_lt (h.r7 e).2
  cd := fun e _ => Nat.ne_of_lt (h.r11 e).2
  G := fun m h1 h2 h3 h4 => (dc (h4 rfl)).trans (h.G m h1 h2 h3 (fun e => nomatch e))
  e6 := h.e6
  e10 := h.e10
  e14 := h.e14
  e17 := fun e => nomatch e
  e18 := fun e => nomatch e
  q2 := h.q2
  q6 := h.q6
  q10 := h.q10
  q14 := h.q14 }
theorem TwS.step17 (h : TwS p eR eP G0 n0 nn df l0 A0 b2 b3 b6 b7 b10 b11 b14 true true false st a b c d va vb vc) : TwS p eR eP G0 n0 nn df l0 A0 b2 b3 b6 b7 b10 b11 b14 true true true { st with G := ai st.G d (.box 1 [lst p.text, .own a va p.firsts.length, .own b vb p.seconds.length, .own c vc p.pages.length]) } a b c d va vb vc := by
 exact {
  n := h.n
  df := h.df
  l := h.l
  nx := h.nx
  s := h.s
  x10 := h.x10
  x14 := h.x14
  x18 := h.x18
  x6 := h.x6
  f2 := h.f2
  f3 := h.f3
  r3 := h.r3
  g3 := fun e f => (dc (h.ad e rfl)).trans (h.g3 e f)
  f6 := h.f6
  g6 := fun f => have e := h.e6 f; (dc (h.ad e rfl)).trans (h.g6 f)
  f7 := h.f7
  r7 := h.r7
  g7 := fun e f => (dc (h.bd e rfl)).trans (h.g7 e f)
  f10 := h.f10
  g10 := fun f => have e := h.e10 f; (dc (h.bd e rfl)).trans (h.g10 f)
  f11 := h.f11
  r11 := h.r11
  g11 := fun e f => (dc (h.cd e rfl)).trans (h.g11 e f)
  f14 := h.f14
  g14 := fun f => have e := h.e14 f; (dc (h.cd e rfl)).trans (h.g14 f)
  f15 := h.f15
  f16 := h.f16
  r16 := h.r16
  g16 := fun _ e => nomatch e
  f17 := fun _ => jw _ _ _
  ab := h.ab
  ac := h.ac
  ad := h.ad
  bc := h.bc
  bd := h.bd
  cd := h.cd
  G := fun m h1 h2 h3 h4 => (dc (h4 rfl)).trans (h.G m h1 h2 h3 h4)
  e6 := h.e6
  e10 := h.e10
  e14 := h.e14
  e17 := fun _ => rfl
  e18 := fun _ => rfl
  q2 := h.q2
  q6 := h.q6
  q10 := h.q10
  q14 := h.q14 }
end
end Go.AB
