/-
  What the walks through the program rest on: values, states, steps, calls (RdOpen, AbFW, RfLefts, QnRef, QrRef, ReAsk, RjRests, QoRef, RkTotal, RgSets, QpRef, QqRef, RlChief).
-/
import Derived.Test.YtgffhbbcpgdjjaaDoorPartC
import Derived.Test.YtgffhbbcpgdjjaaDoorPartB
namespace Go.AB
open Go Go.RowKit
open Go.AB.Enc (cells)
open Go.PB (aq ah PlaceD av ax aw bg am af cb ba cr c4)
/-- the readers that have been looked at -/
def f9 (p : af) : Nat → List bg
 | 0 => []
 | 1 => p.firsts
 | _ => p.firsts ++ p.seconds
theorem ufx {p : af} : ∀ {k : Nat}, k < 2 → f9 p (k + 1) = f9 p k ++ di p (decide (k = 1))
 | 0, _ => rfl
 | 1, _ => rfl
 | k + 2, h => by omega
def okR (l : List bg) : Prop := l.all i0 = true ∧ (l.map (·.id)).Nodup
theorem uhm {l : List bg} {r : bg} (h : okR l) (h1 : i0 r = true) (h2 : r.id ∉ l.map (·.id)) : okR (l ++ [r]) := by
 refine ⟨by rw [List.all_append, h.1]; simp [h1], ?_⟩
 rw [List.map_append, List.nodup_append]
 refine ⟨h.2, by simp, fun a ha b hb e => ?_⟩
 simp only [List.map_cons, List.map_nil, List.mem_singleton] at hb
 subst hb; subst e
 exact h2 ha
theorem ufw {p : af} : ∀ {k i : Nat}, k < 2 → (f9 p k ++ (di p (decide (k = 1))).take i) <+: (p.firsts ++ p.seconds)
 | 0, i, _ => by
  show [] ++ p.firsts.take i <+: p.firsts ++ p.seconds
  rw [List.nil_append]
  exact (List.take_prefix i p.firsts).trans (List.prefix_append _ _)
 | 1, i, _ => (List.prefix_append_right_inj p.firsts).2 (List.take_prefix i p.seconds)
 | k + 2, _, h => by omega
theorem ugm {p : af} {k i : Nat} {r : bg} (hk : k < 2) (hr : (di p (decide (k = 1)))[i]? = some r) (hb : i0 r = false ∨ r.id ∈ (f9 p k ++ (di p (decide (k = 1))).take i).map (·.id)) : jd p = false := by
 have hpre := ufw (p := p) (k := k) (i := i + 1) hk
 rw [List.take_add_one, hr, Option.toList_some, ← List.append_assoc] at hpre
 unfold jd pj
 rcases hb with h | h
 ·have : (p.firsts ++ p.seconds).all i0 = false := List.all_eq_false.2 ⟨r, hpre.subset (by simp), by rw [h]; simp⟩
  rw [this]; simp
 ·have : ¬ ((p.firsts ++ p.seconds).map (·.id)).Nodup := fun hn => by
   have h2 := hn.sublist (List.Sublist.map (·.id) hpre.sublist)
   rw [List.map_append, List.nodup_append] at h2
   exact h2.2.2 _ h r.id (by simp) rfl
  rw [decide_eq_false this]; simp
theorem uia {p : af} {b : Bool} (h : ¬ (di p b).length ≤ 3) : jd p = false := by
 unfold jd pj
 cases b
 ·rw [decide_eq_false (show ¬ p.firsts.length ≤ 3 from h)]; simp
 ·rw [decide_eq_false (show ¬ p.seconds.length ≤ 3 from h)]; simp
theorem ugv {p : af} (h : ¬ p.pages.length ≤ 8) : jd p = false := by
 unfold jd
 rw [decide_eq_false h]; simp
theorem ui0 {l : List bg} (r : bg) : jg (gm (l.map (·.id))) r.id (.v (.bool true)) = gm ((l ++ [r]).map (·.id)) := by
 funext x
 unfold jg gm
 rw [List.map_append]
 by_cases hx : x = r.id
 ·simp [hx]
 ·simp [hx]
/-- a side of a page is as it may be -/
def qz (p : af) (x : am) (b : Bool) : Bool := inB (eu b x) (-1) (((di p b).length : Int) - 1) && j6 p.text x (eu b x) (cw b x)
def om (p : af) (last : Int) (x : am) : Bool := decide (last < x.fr) && decide (x.fr ≤ x.to) && decide (x.to < (pz p.text : Int))
def m6 (p : af) (last : Int) (x : am) : Nat → Bool
 | 0 => om p last x
 | k + 1 => m6 p last x k && qz p x (decide (k = 1))
theorem ufk (p : af) (last : Int) (x : am) : m6 p last x 2 = lk p last x := by
 show ((om p last x && qz p x false) && qz p x true) = _
 unfold om qz lk
 cases decide (last < x.fr) <;> cases decide (x.fr ≤ x.to) <;> cases decide (x.to < (pz p.text : Int)) <;> simp [di, eu, cw, Bool.and_assoc]
/-- where proofs are opened -/
def i2 (p : af) : C := bif decide (ck p = 0) then .elem [lst p.text, lst p.firsts, lst p.seconds, lst p.pages, lst (p.pages.map fun x => (fb p.text x : Int)), lst (p.pages.map (ed p.text)), lst (p.pages.map (dn p.text))] else .v (.pointer none)
theorem uai (m : Nat) (p : af) : C.low m (i2 p) := by
 unfold i2
 cases decide (ck p = 0)
 ·exact .v
 ·refine .elem fun c hc => ?_
  simp only [List.mem_cons, List.not_mem_nil, or_false] at hc
  rcases hc with rfl | rfl | rfl | rfl | rfl | rfl | rfl <;> exact bd m _
theorem tn {p : af} (h : ck p = 0) : i2 p = .elem [lst p.text, lst p.firsts, lst p.seconds, lst p.pages, lst (p.pages.map fun x => (fb p.text x : Int)), lst (p.pages.map (ed p.text)), lst (p.pages.map (dn p.text))] := by unfold i2; rw [decide_eq_true h]; rfl
theorem ro {p : af} (h : ck p ≠ 0) : i2 p = .v (.pointer none) := by unfold i2; rw [decide_eq_false h]; rfl
theorem vm {α : Type} {l : List α} {k : Nat} {x : α} (h : l[k]? = some x) : l.take (k + 1) = l.take k ++ [x] := by rw [List.take_add_one, h]; rfl
theorem nil_len {α : Type} {l : List α} : l = [] ↔ (l.length : Int) = 0 := by
 constructor
 ·rintro rfl; rfl
 ·intro h; exact List.eq_nil_of_length_eq_zero (by omega)
theorem g7 {t : ah} {x : am} {l : List PlaceD} {i : Nat} {q : PlaceD} (h : l[i]? = some q) : qc t x l i = (ga t q && i1 t x q && (decide (i = 0) || match l[i - 1]? with | none => true | some a => befB a q)) := by unfold qc; rw [h]; rfl
theorem ukc {p : af} (h : ff p.text = false) : ck p = 10 := by unfold ck; rw [h]; rfl
theorem ur {p : af} (h : ff p.text = true) (hp : jd p = false) : ck p = 90 := by unfold ck; rw [h, hp]; rfl
theorem ukd {p : af} (h : ff p.text = true) (hp : jd p = true) : ck p = 0 := by unfold ck; rw [h, hp]; rfl
end Go.AB
namespace Go.Proofs.YtgffhbbcpgdjjaaDoor
set_option maxRecDepth 10000
open Go Go.RowKit Go.AB
open Go.AB.Enc (cells)
open Go.PB (aq ah PlaceD av ax aw bg am af cb ba cr c4)
set_option maxHeartbeats 4000000 in
theorem lm (n : Nat) (p : af) : PureS n eg Tryd.prog 39 [val p] (.tup [i2 p, .v (.int .i64 (ck p))]) := fun G nx hF hnx => by
 refine gk (G) (nx) Tryd.func39 rfl (.tup (bn (uai _ _) (bn .v cv))) zN (fun hlt => zH) ?_
 simp only [Tryd.ntmps39, List.length_cons, List.length_nil, Nat.reduceAdd, Nat.reduceSub]
 refine bv fun hlt => ?_
 dsimp only at hlt
 refine br fun K1 hK1 => ?_
 refine bj ?_
 try dsimp only [St.put]
 refine ab rfl (uco rfl rfl (by simp) ?_)
 refine aa rfl (bq rfl (by constructor)) ?_
 refine aa rfl (bq rfl (by constructor)) ?_
 refine bf ?_
 dsimp only [St.put]
 refine hK1 _ ?_
 refine udc ?_
 refine br fun K2 hK2 => ?_
 refine br fun K3 hK3 => ?_
 refine bj ?_
 first | refine aa rfl (c6 rfl rfl rfl) ?_ | refine aa rfl (cm rfl rfl) ?_
 try dsimp only [St.put]
 refine ae rfl (c := oe p.text) (kn (cs := cells p) rfl rfl (show 1 ≤ 4 by decide)) ?_
 try dsimp only [St.put]
 refine ab rfl (az rfl rfl rfl (uiq p.text) ?_)
 refine aa rfl (bq rfl (by constructor)) ?_
 refine bf ?_
 dsimp only [St.put]
 refine hK3 _ ?_
 refine br fun K4 hK4 => ?_
 refine bj ?_
 refine aa rfl (ar rfl (by constructor)) ?_
 refine aa rfl (f8 rfl rfl rfl) ?_
 refine bf ?_
 dsimp only [St.put]
 refine hK4 _ ?_
 refine bc rfl (fun hc => ?_) (fun hc => ?_)
 ·have ht : ff p.text = false := by
   have h0 := j2 hc
   unfold jn at h0
   cases h1 : ff p.text
   ·rfl
   ·rw [h1] at h0; exact absurd rfl h0
  have hE : ck p = 10 := ukc ht
  have hR : jn p.text = 10 := by simp [jn, ht]
  refine br fun K5 hK5 => ?_
  refine bj ?_
  refine aa rfl (ar rfl (by constructor)) ?_
  refine aa rfl (bq rfl (by constructor)) ?_
  refine aa rfl (bq rfl (by constructor)) ?_
  refine bf ?_
  dsimp only [St.put]
  refine hK5 _ ?_
  refine ay ?_
  refine jj rfl (by constructor) (by constructor) zN zS ?_ ?_
  ·rw [ro (by rw [hE]; decide)]
  ·rw [hE, hR]
 ·have ht : ff p.text = true := by
   have h0 := g6 hc
   unfold jn at h0
   cases h1 : ff p.text
   ·rw [h1] at h0; cases h0
   ·rfl
  obtain ⟨hl1, hl2, hl3⟩ := m5 ht
  have hll : pz p.text ≤ 60 := s4 ht _ (Nat.le_refl _)
  refine bi ?_
  refine hK2 _ ?_
  refine br fun K6 hK6 => ?_
  refine bj ?_
  first | refine aa rfl (c6 rfl rfl rfl) ?_ | refine aa rfl (cm rfl rfl) ?_
  try dsimp only [St.put]
  refine ae rfl (c := oe p.text) (kn (cs := cells p) rfl rfl (show 1 ≤ 4 by decide)) ?_
  try dsimp only [St.put]
  refine ab rfl (az rfl rfl rfl (ug5 p.text ht) ?_)
  refine aa rfl (ar rfl (by constructor)) ?_
  refine aa rfl (gg rfl rfl rfl) ?_
  refine aa rfl (gg rfl rfl rfl) ?_
  refine aa rfl (bq rfl (by constructor)) ?_
  refine aa rfl (bq rfl (by constructor)) ?_
  refine bf ?_
  dsimp only [St.put]
  refine hK6 _ ?_
  refine br fun K7 hK7 => ?_
  refine bj ?_
  try dsimp only [St.put]
  refine ab rfl (xo (α := Int) rfl ?_)
  refine aa rfl (bq rfl (by constructor)) ?_
  refine bf ?_
  dsimp only [St.put]
  refine hK7 _ ?_
  refine br fun K8 hK8 => ?_
  refine br fun K9 hK9 => ?_
  refine bj ?_
  try dsimp only [St.put]
  refine ae rfl (dq (n := 6) (m := n) rfl rfl zG rfl) ?_
  refine aa rfl (ar rfl (by constructor)) ?_
  refine bf ?_
  dsimp only [St.put]
  refine hK9 _ ?_
  refine cd ?_
  refine du 38 ?_
  refine zQ ?_
  refine fa (aj G nx (gp Tryd.prog 3 0 fun _ => none)) zX ?_
  dsimp only
  refine et (X := Nat) (fun k => k ≤ 2 ∧ okR (f9 p k) ∧ ((0 < k → p.firsts.length ≤ 3) ∧ (1 < k → p.seconds.length ≤ 3))) (fun k => 2 - k) (fun k => [(9, .any), (11, .any), (37, .v (.int .i64 (k : Int)))]) (fun k G' => (aj G (nx) (gp Tryd.prog 3 (((f9 p k).length)) (gm (((f9 p k)).map (·.id)))))) 0 rfl ?_ ?_ ?_ ?_ ?_ ?_
  ·exact ⟨by omega, ⟨rfl, List.nodup_nil⟩, fun h => absurd h (Nat.lt_irrefl _), fun h => by omega⟩
  ·exact zF
  ·rw [show gm ((f9 p 0).map (·.id)) = fun _ => none from ubl]
   exact zX
  ·rintro k hI
   exact (by (try dsimp only); repeat' (first | exact trivial | refine ⟨?_, ?_⟩ | exact .v | exact .any | refine .elem ?_ | exact bd _ _ | exact e8 _ _ | exact dz _ _ | exact fe _ (by (try dsimp only); omega) | exact .box (by (try dsimp only); omega) | exact em | exact cv | exact gn (i3 _ _) | refine fg ?_ ?_ | exact .arr (by (try dsimp only); omega) | exact .own (by (try dsimp only); omega) | exact .map (by (try dsimp only); omega) | exact ec _ | refine bn ?_ ?_ | exact bd _ _))
  ·rintro k hI
   exact (by (repeat' (refine jt ?_ (by (try dsimp only); omega) ?_)); all_goals (first | exact ju zS | (repeat' (first | exact trivial | refine ⟨?_, ?_⟩ | exact .v | exact .any | refine .elem ?_ | exact bd _ _ | exact e8 _ _ | exact dz _ _ | exact fe _ (by (try dsimp only); omega) | exact .box (by (try dsimp only); omega) | exact em | exact cv | exact gn (i3 _ _) | refine fg ?_ ?_ | exact .arr (by (try dsimp only); omega) | exact .own (by (try dsimp only); omega) | exact .map (by (try dsimp only); omega) | exact ec _ | refine bn ?_ ?_ | exact bd _ _))))
  ·rintro k hI
   dsimp only at hI ⊢
   refine br fun K10 hK10 => ?_
   refine bj ?_
   refine aa rfl (dp rfl rfl rfl) ?_
   refine bf ?_
   dsimp only [St.put]
   refine hK10 _ ?_
   refine br fun K11 hK11 => ?_
   refine bc rfl (fun hc => ?_) (fun hc => ?_)
   ·replace hc := of_decide_eq_true hc
    have hk : k < 2 := by omega
    refine bi ?_
    refine hK11 _ ?_
    refine br fun K12 hK12 => ?_
    refine cd ?_
    refine br fun K13 hK13 => ?_
    refine bj ?_
    refine aa rfl (tv (k := k) (m := 2) (sz := 3) rfl rfl rfl rfl hk (s8 hk)) ?_
    try dsimp only [St.put]
    refine ab rfl (dg rfl ?_)
    try dsimp only [St.put]
    first | refine ab rfl (cn rfl rfl rfl zG rfl rfl (by rfl) ?_) | refine ab rfl (gi rfl rfl rfl zG (by constructor) rfl zO ?_)
    refine bf ?_
    dsimp only [St.put]
    refine hK13 _ ?_
    refine fj (i := 9) rfl zG zC ?_
    dsimp only
    refine br fun K14 hK14 => ?_
    refine br fun K15 hK15 => ?_
    refine bj ?_
    first | refine aa rfl (c6 rfl rfl rfl) ?_ | refine aa rfl (cm rfl rfl) ?_
    try dsimp only [St.put]
    first | refine ae rfl (bw rfl rfl) ?_ | refine ae rfl (bh rfl rfl (Enc.len _)) ?_ | refine ae rfl (bh rfl rfl rfl) ?_ | refine ae rfl (ci rfl rfl zG trivial (by first | rfl | assumption)) ?_ | refine ae rfl (dc rfl rfl zG trivial (by rfl)) ?_ | refine ae rfl (dv rfl rfl zG trivial (by simp)) ?_ | refine ae rfl (bp rfl rfl zG trivial (dw (by assumption) rfl)) ?_ | refine ae rfl (bp rfl rfl zG trivial (by assumption)) ?_ | refine ae rfl (d8 rfl rfl zG trivial rfl (by assumption) rfl (by decide)) ?_ | refine ae rfl (dq rfl rfl zG (by rfl)) ?_
    try dsimp only [St.put]
    first | refine ae rfl (bw rfl rfl) ?_ | refine ae rfl (bh rfl rfl (Enc.len _)) ?_ | refine ae rfl (bh rfl rfl rfl) ?_ | refine ae rfl (ci rfl rfl zG trivial (by first | rfl | assumption)) ?_ | refine ae rfl (dc rfl rfl zG trivial (by rfl)) ?_ | refine ae rfl (dv rfl rfl zG trivial (by simp)) ?_ | refine ae rfl (bp rfl rfl zG trivial (dw (by assumption) rfl)) ?_ | refine ae rfl (bp rfl rfl zG trivial (by assumption)) ?_ | refine ae rfl (d8 rfl rfl zG trivial rfl (by assumption) rfl (by decide)) ?_ | refine ae rfl (dq rfl rfl zG (by rfl)) ?_
    try dsimp only [St.put]
    refine ab rfl (az rfl rfl rfl (m7 (decide (k = 1)) p) ?_)
    first | refine aa rfl (cc rfl rfl (List.length_map _)) ?_ | refine aa rfl (cc rfl rfl rfl) ?_ | refine aa rfl (lu rfl rfl) ?_ | refine aa rfl (mh rfl rfl) ?_ | refine aa rfl (mg rfl rfl) ?_ | refine aa rfl (mf rfl rfl (by omega)) ?_
    refine aa rfl (ot rfl rfl rfl) ?_
    refine bf ?_
    dsimp only [St.put]
    refine hK15 _ ?_
    refine bc rfl (fun hc => ?_) (fun hc => ?_)
    ·have hs3 : ¬ (di p (decide (k = 1))).length ≤ 3 := by
      have := of_decide_eq_true hc
      omega
     have hE : ck p = 90 := ur ht (uia hs3)
     refine br fun K16 hK16 => ?_
     refine bj ?_
     refine aa rfl (bq rfl (by constructor)) ?_
     refine aa rfl (bq rfl (by constructor)) ?_
     refine bf ?_
     dsimp only [St.put]
     refine hK16 _ ?_
     refine ay ?_
     refine jj rfl (by constructor) (by constructor) zN zS ?_ ?_
     ·rw [ro (by rw [hE]; decide)]
     ·rw [hE]
    ·have hs3 : (di p (decide (k = 1))).length ≤ 3 := by
      have := of_decide_eq_false hc
      omega
     refine bi ?_
     refine hK14 _ ?_
     refine br fun K17 hK17 => ?_
     refine bj ?_
     first | refine aa rfl (c6 rfl rfl rfl) ?_ | refine aa rfl (cm rfl rfl) ?_
     try dsimp only [St.put]
     first | refine ae rfl (bw rfl rfl) ?_ | refine ae rfl (bh rfl rfl (Enc.len _)) ?_ | refine ae rfl (bh rfl rfl rfl) ?_ | refine ae rfl (ci rfl rfl zG trivial (by first | rfl | assumption)) ?_ | refine ae rfl (dc rfl rfl zG trivial (by rfl)) ?_ | refine ae rfl (dv rfl rfl zG trivial (by simp)) ?_ | refine ae rfl (bp rfl rfl zG trivial (dw (by assumption) rfl)) ?_ | refine ae rfl (bp rfl rfl zG trivial (by assumption)) ?_ | refine ae rfl (d8 rfl rfl zG trivial rfl (by assumption) rfl (by decide)) ?_ | refine ae rfl (dq rfl rfl zG (by rfl)) ?_
     try dsimp only [St.put]
     first | refine ae rfl (bw rfl rfl) ?_ | refine ae rfl (bh rfl rfl (Enc.len _)) ?_ | refine ae rfl (bh rfl rfl rfl) ?_ | refine ae rfl (ci rfl rfl zG trivial (by first | rfl | assumption)) ?_ | refine ae rfl (dc rfl rfl zG trivial (by rfl)) ?_ | refine ae rfl (dv rfl rfl zG trivial (by simp)) ?_ | refine ae rfl (bp rfl rfl zG trivial (dw (by assumption) rfl)) ?_ | refine ae rfl (bp rfl rfl zG trivial (by assumption)) ?_ | refine ae rfl (d8 rfl rfl zG trivial rfl (by assumption) rfl (by decide)) ?_ | refine ae rfl (dq rfl rfl zG (by rfl)) ?_
     try dsimp only [St.put]
     refine ab rfl (az rfl rfl rfl (m7 (decide (k = 1)) p) ?_)
     first | refine aa rfl (cc rfl rfl (List.length_map _)) ?_ | refine aa rfl (cc rfl rfl rfl) ?_ | refine aa rfl (lu rfl rfl) ?_ | refine aa rfl (mh rfl rfl) ?_ | refine aa rfl (mg rfl rfl) ?_ | refine aa rfl (mf rfl rfl (by omega)) ?_
     refine aa rfl (ar rfl (by constructor)) ?_
     refine bf ?_
     dsimp only [St.put]
     rw [show gm ((f9 p k).map (·.id)) = gm ((f9 p k ++ (di p (decide (k = 1))).take 0).map (·.id)) by simp]
     refine hK17 _ ?_
     refine cd ?_
     refine du 52 ?_
     refine zQ ?_
     refine fa ((aj G (nx) (gp Tryd.prog 3 (((f9 p k).length)) (gm (((f9 p k ++ (di p (decide (k = 1))).take 0)).map (·.id)))))) zX ?_
     dsimp only
     refine et (X := Nat) (fun i => i ≤ (di p (decide (k = 1))).length ∧ okR (f9 p k ++ (di p (decide (k = 1))).take i)) (fun i => (di p (decide (k = 1))).length - i) (fun i => [(11, .any), (51, .v (.int .i64 (i : Int)))]) (fun i G' => (aj G (nx) (gp Tryd.prog 3 (((f9 p k ++ (di p (decide (k = 1))).take i).length)) (gm (((f9 p k ++ (di p (decide (k = 1))).take i)).map (·.id)))))) 0 rfl ?_ ?_ ?_ ?_ ?_ ?_
     ·exact ⟨Nat.zero_le _, by simpa using hI.2.1⟩
     ·exact zF
     ·rw [show (f9 p k ++ (di p (decide (k = 1))).take 0).length = (f9 p k).length by simp]
      exact zX
     ·rintro i hI
      exact (by (try dsimp only); repeat' (first | exact trivial | refine ⟨?_, ?_⟩ | exact .v | exact .any | refine .elem ?_ | exact bd _ _ | exact e8 _ _ | exact dz _ _ | exact fe _ (by (try dsimp only); omega) | exact .box (by (try dsimp only); omega) | exact em | exact cv | exact gn (i3 _ _) | refine fg ?_ ?_ | exact .arr (by (try dsimp only); omega) | exact .own (by (try dsimp only); omega) | exact .map (by (try dsimp only); omega) | exact ec _ | refine bn ?_ ?_ | exact bd _ _))
     ·rintro i hI
      exact (by (repeat' (refine jt ?_ (by (try dsimp only); omega) ?_)); all_goals (first | exact ju zS | (repeat' (first | exact trivial | refine ⟨?_, ?_⟩ | exact .v | exact .any | refine .elem ?_ | exact bd _ _ | exact e8 _ _ | exact dz _ _ | exact fe _ (by (try dsimp only); omega) | exact .box (by (try dsimp only); omega) | exact em | exact cv | exact gn (i3 _ _) | refine fg ?_ ?_ | exact .arr (by (try dsimp only); omega) | exact .own (by (try dsimp only); omega) | exact .map (by (try dsimp only); omega) | exact ec _ | refine bn ?_ ?_ | exact bd _ _))))
     ·rintro i hJ
      dsimp only at hJ ⊢
      refine br fun K18 hK18 => ?_
      refine bj ?_
      refine aa rfl (dp rfl rfl rfl) ?_
      refine bf ?_
      dsimp only [St.put]
      refine hK18 _ ?_
      refine br fun K19 hK19 => ?_
      refine bc rfl (fun hc => ?_) (fun hc => ?_)
      ·replace hc := of_decide_eq_true hc
       obtain ⟨r, hr⟩ : ∃ r, (di p (decide (k = 1)))[i]? = some r := fl (by omega)
       obtain ⟨L, hL⟩ : ∃ L, f9 p k ++ (di p (decide (k = 1))).take i = L := ⟨_, rfl⟩
       refine bi ?_
       refine hK19 _ ?_
       refine br fun K20 hK20 => ?_
       refine cd ?_
       refine br fun K21 hK21 => ?_
       refine bj ?_
       try dsimp only [St.put]
       first | refine aa rfl (c5 rfl rfl rfl rfl (c7 (by assumption)) (Enc.len _)) ?_ | refine aa rfl (c5 rfl rfl rfl rfl (by assumption) rfl) ?_ | refine aa rfl (tw rfl rfl rfl (by first | exact ud _ | exact rfl) (by omega)) ?_ | refine aa rfl (c5 rfl rfl rfl (by omega) (c7 (by assumption)) (Enc.len _)) ?_
       try dsimp only [St.put]
       first | refine ae rfl (bw rfl rfl) ?_ | refine ae rfl (bh rfl rfl (Enc.len _)) ?_ | refine ae rfl (bh rfl rfl rfl) ?_ | refine ae rfl (ci rfl rfl zG trivial (by first | rfl | assumption)) ?_ | refine ae rfl (dc rfl rfl zG trivial (by rfl)) ?_ | refine ae rfl (dv rfl rfl zG trivial (by simp)) ?_ | refine ae rfl (bp rfl rfl zG trivial (dw (by assumption) rfl)) ?_ | refine ae rfl (bp rfl rfl zG trivial (by assumption)) ?_ | refine ae rfl (d8 rfl rfl zG trivial rfl (by assumption) rfl (by decide)) ?_ | refine ae rfl (dq rfl rfl zG (by rfl)) ?_
       try dsimp only [St.put]
       refine ab rfl (dg rfl ?_)
       try dsimp only [St.put]
       first | refine ab rfl (cn rfl rfl rfl zG rfl rfl (by rfl) ?_) | refine ab rfl (gi rfl rfl rfl zG (by constructor) rfl zO ?_)
       refine bf ?_
       dsimp only [St.put]
       refine hK21 _ ?_
       refine fj (i := 11) rfl zG zC ?_
       dsimp only
       refine br fun K22 hK22 => ?_
       refine du 52 ?_
       refine zQ ?_
       refine n2 (X := Bool) (fun d => d = !(i0 r && !decide (r.id ∈ (f9 p k ++ (di p (decide (k = 1))).take i).map (·.id)))) (fun d => [(72, .v (.bool d))]) (fun d G' => G') rfl ?_ (fun _ _ _ _ h => .inl h) ?_ ?_
       ·rintro d hI
        exact (by (try dsimp only); repeat' (first | exact trivial | refine ⟨?_, ?_⟩ | exact .v | exact .any | refine .elem ?_ | exact bd _ _ | exact e8 _ _ | exact dz _ _ | exact fe _ (by (try dsimp only); omega) | exact .box (by (try dsimp only); omega) | exact em | exact cv | exact gn (i3 _ _) | refine fg ?_ ?_ | exact .arr (by (try dsimp only); omega) | exact .own (by (try dsimp only); omega) | exact .map (by (try dsimp only); omega) | exact ec _ | refine bn ?_ ?_ | exact bd _ _))
       ·refine bj ?_
        first | refine aa rfl (c6 rfl rfl rfl) ?_ | refine aa rfl (cm rfl rfl) ?_
        try dsimp only [St.put]
        first | refine ae rfl (bw rfl rfl) ?_ | refine ae rfl (bh rfl rfl (Enc.len _)) ?_ | refine ae rfl (bh rfl rfl rfl) ?_ | refine ae rfl (ci rfl rfl zG trivial (by first | rfl | assumption)) ?_ | refine ae rfl (dc rfl rfl zG trivial (by rfl)) ?_ | refine ae rfl (dv rfl rfl zG trivial (by simp)) ?_ | refine ae rfl (bp rfl rfl zG trivial (dw (by assumption) rfl)) ?_ | refine ae rfl (bp rfl rfl zG trivial (by assumption)) ?_ | refine ae rfl (d8 rfl rfl zG trivial rfl (by assumption) rfl (by decide)) ?_ | refine ae rfl (dq rfl rfl zG (by rfl)) ?_
        try dsimp only [St.put]
        refine ab rfl (cy rfl rfl rfl (by decide) (by decide) zR (by decide) ?_)
        try dsimp only [St.put]
        refine ab rfl (az rfl rfl rfl (ll _ _ [_]) ?_)
        refine aa rfl (ge rfl rfl) ?_
        refine aa rfl (ar rfl (by constructor)) ?_
        refine ir (fun hs => ?_) (fun hs => ?_)
        ·have h5 : inB r.id 0 9999 = false := by rw [fw] at hs; simpa using hs
         refine cz rfl ?_
         refine cz rfl ?_
         refine cz rfl ?_
         refine cz rfl ?_
         first | refine aa rfl (bz rfl rfl (by constructor)) ?_ | refine aa rfl (cj rfl rfl (by constructor)) ?_ | refine aa rfl (dl rfl rfl rfl rfl) ?_ | refine aa rfl (dj rfl rfl rfl rfl) ?_
         refine aa rfl (ar rfl (by constructor)) ?_
         refine cz rfl ?_
         refine cz rfl ?_
         refine cz rfl ?_
         refine cz rfl ?_
         refine cz rfl ?_
         first | refine aa rfl (bz rfl rfl (by constructor)) ?_ | refine aa rfl (cj rfl rfl (by constructor)) ?_ | refine aa rfl (dl rfl rfl rfl rfl) ?_ | refine aa rfl (dj rfl rfl rfl rfl) ?_
         refine bf ?_
         dsimp only [St.put]
         refine ⟨_, ?_, ⟨⟨rfl, rfl⟩, zF, zB, zN, zX⟩⟩
         unfold i0
         first
         | (rw [h5]; simp; done)
         | (rw [decide_eq_true h11]; simp; done)
         | (rw [h5, decide_eq_false h11, fw]; simp)
        ·have h5 : inB r.id 0 9999 = true := by rw [fw] at hs; simpa using hs
         refine aa rfl (ar rfl (by constructor)) ?_
         first | refine aa rfl (c6 rfl rfl rfl) ?_ | refine aa rfl (cm rfl rfl) ?_
         try dsimp only [St.put]
         first | refine ae rfl (bw rfl rfl) ?_ | refine ae rfl (bh rfl rfl (Enc.len _)) ?_ | refine ae rfl (bh rfl rfl rfl) ?_ | refine ae rfl (ci rfl rfl zG trivial (by first | rfl | assumption)) ?_ | refine ae rfl (dc rfl rfl zG trivial (by rfl)) ?_ | refine ae rfl (dv rfl rfl zG trivial (by simp)) ?_ | refine ae rfl (bp rfl rfl zG trivial (dw (by assumption) rfl)) ?_ | refine ae rfl (bp rfl rfl zG trivial (by assumption)) ?_ | refine ae rfl (d8 rfl rfl zG trivial rfl (by assumption) rfl (by decide)) ?_ | refine ae rfl (dq rfl rfl zG (by rfl)) ?_
         try dsimp only [St.put]
         refine ae rfl (td r.id rfl rfl zG trivial rfl (ubm _ _)) ?_
         first | refine aa rfl (bz rfl rfl (by constructor)) ?_ | refine aa rfl (cj rfl rfl (by constructor)) ?_ | refine aa rfl (dl rfl rfl rfl rfl) ?_ | refine aa rfl (dj rfl rfl rfl rfl) ?_
         refine aa rfl (ar rfl (by constructor)) ?_
         refine ir (fun hs => ?_) (fun hs => ?_)
         ·have h11 := of_decide_eq_true hs
          refine cz rfl ?_
          refine cz rfl ?_
          refine cz rfl ?_
          refine cz rfl ?_
          refine cz rfl ?_
          first | refine aa rfl (bz rfl rfl (by constructor)) ?_ | refine aa rfl (cj rfl rfl (by constructor)) ?_ | refine aa rfl (dl rfl rfl rfl rfl) ?_ | refine aa rfl (dj rfl rfl rfl rfl) ?_
          refine bf ?_
          dsimp only [St.put]
          refine ⟨_, ?_, ⟨⟨rfl, rfl⟩, zF, zB, zN, zX⟩⟩
          unfold i0
          first
          | (rw [h5]; simp; done)
          | (rw [decide_eq_true h11]; simp; done)
          | (rw [h5, decide_eq_false h11, fw]; simp)
         ·have h11 := of_decide_eq_false hs
          first | refine aa rfl (c6 rfl rfl rfl) ?_ | refine aa rfl (cm rfl rfl) ?_
          try dsimp only [St.put]
          first | refine ae rfl (bw rfl rfl) ?_ | refine ae rfl (bh rfl rfl (Enc.len _)) ?_ | refine ae rfl (bh rfl rfl rfl) ?_ | refine ae rfl (ci rfl rfl zG trivial (by first | rfl | assumption)) ?_ | refine ae rfl (dc rfl rfl zG trivial (by rfl)) ?_ | refine ae rfl (dv rfl rfl zG trivial (by simp)) ?_ | refine ae rfl (bp rfl rfl zG trivial (dw (by assumption) rfl)) ?_ | refine ae rfl (bp rfl rfl zG trivial (by assumption)) ?_ | refine ae rfl (d8 rfl rfl zG trivial rfl (by assumption) rfl (by decide)) ?_ | refine ae rfl (dq rfl rfl zG (by rfl)) ?_
          try dsimp only [St.put]
          refine ab rfl (cy rfl rfl rfl (by decide) (by decide) zR (by decide) ?_)
          try dsimp only [St.put]
          refine ab rfl (az rfl rfl rfl (ll _ _ [_]) ?_)
          refine aa rfl (ge rfl rfl) ?_
          first | refine aa rfl (bz rfl rfl (by constructor)) ?_ | refine aa rfl (cj rfl rfl (by constructor)) ?_ | refine aa rfl (dl rfl rfl rfl rfl) ?_ | refine aa rfl (dj rfl rfl rfl rfl) ?_
          refine bf ?_
          dsimp only [St.put]
          refine ⟨_, ?_, ⟨⟨rfl, rfl⟩, zF, zB, zN, zX⟩⟩
          unfold i0
          first
          | (rw [h5]; simp; done)
          | (rw [decide_eq_true h11]; simp; done)
          | (rw [h5, decide_eq_false h11, fw]; simp)
       ·rintro d hst
        dsimp only at hst ⊢
        refine bc rfl (fun hc => ?_) (fun hc => ?_)
        ·have hbad : i0 r = false ∨ r.id ∈ (f9 p k ++ (di p (decide (k = 1))).take i).map (·.id) := by
          rw [hc] at hst
          cases h1 : i0 r
          ·exact .inl rfl
          ·rw [h1] at hst
           right
           exact Classical.byContradiction fun h2 => by rw [decide_eq_false h2] at hst; cases hst
         have hE : ck p = 90 := ur ht (ugm hk hr hbad)
         refine br fun K24 hK24 => ?_
         refine bj ?_
         refine aa rfl (bq rfl (by constructor)) ?_
         refine aa rfl (bq rfl (by constructor)) ?_
         refine bf ?_
         dsimp only [St.put]
         refine hK24 _ ?_
         refine ay ?_
         refine jj rfl (by constructor) (by constructor) zN zS ?_ ?_
         ·rw [ro (by rw [hE]; decide)]
         ·rw [hE]
        ·have hgood : i0 r = true ∧ r.id ∉ (f9 p k ++ (di p (decide (k = 1))).take i).map (·.id) := by
          rw [hc] at hst
          cases h1 : i0 r
          ·rw [h1] at hst; cases hst
          ·rw [h1] at hst
           exact ⟨rfl, fun h2 => by rw [decide_eq_true h2] at hst; cases hst⟩
         refine bi ?_
         refine hK22 _ ?_
         refine bj ?_
         refine aa rfl (ar rfl (by constructor)) ?_
         first | refine aa rfl (c6 rfl rfl rfl) ?_ | refine aa rfl (cm rfl rfl) ?_
         try dsimp only [St.put]
         first | refine ae rfl (bw rfl rfl) ?_ | refine ae rfl (bh rfl rfl (Enc.len _)) ?_ | refine ae rfl (bh rfl rfl rfl) ?_ | refine ae rfl (ci rfl rfl zG trivial (by first | rfl | assumption)) ?_ | refine ae rfl (dc rfl rfl zG trivial (by rfl)) ?_ | refine ae rfl (dv rfl rfl zG trivial (by simp)) ?_ | refine ae rfl (bp rfl rfl zG trivial (dw (by assumption) rfl)) ?_ | refine ae rfl (bp rfl rfl zG trivial (by assumption)) ?_ | refine ae rfl (d8 rfl rfl zG trivial rfl (by assumption) rfl (by decide)) ?_ | refine ae rfl (dq rfl rfl zG (by rfl)) ?_
         try dsimp only [St.put]
         refine ab rfl (se (r.id) rfl rfl rfl zG rfl ((show jg (gm ((f9 p k ++ (di p (decide (k = 1))).take i).map (·.id))) r.id (.v (.bool true)) = gm ((f9 p k ++ (di p (decide (k = 1))).take (i + 1)).map (·.id)) from by rw [vm hr, ← List.append_assoc]; exact ui0 r)) ?_)
         refine bf ?_
         dsimp only [St.put]
         refine hK20 _ ?_
         refine bj ?_
         first | refine aa rfl (ct rfl rfl rfl (by omega)) ?_ | refine aa rfl (jf rfl rfl rfl) ?_
         refine aa rfl (ar rfl (by constructor)) ?_
         refine bf ?_
         dsimp only [St.put]
         rw [show (f9 p k ++ (di p (decide (k = 1))).take i).length + 1 = (f9 p k ++ (di p (decide (k = 1))).take (i + 1)).length by rw [vm hr, ← List.append_assoc, List.length_append (bs := [r])]; rfl]
         exact ⟨i + 1, by omega, ⟨by omega, by rw [vm hr, ← List.append_assoc]; exact uhm hJ.2 hgood.1 hgood.2⟩, ⟨⟨rfl, rfl⟩, zF, zB, zN, zX⟩⟩
      ·replace hc := of_decide_eq_false hc
       refine el ?_
       refine hK12 _ ?_
       refine bj ?_
       first | refine aa rfl (ct rfl rfl rfl (by omega)) ?_ | refine aa rfl (jf rfl rfl rfl) ?_
       refine aa rfl (ar rfl (by constructor)) ?_
       refine bf ?_
       dsimp only [St.put]
       rw [show f9 p k ++ (di p (decide (k = 1))).take i = f9 p (k + 1) by rw [ufx hk, iy (by omega)]] at hJ ⊢
       exact ⟨k + 1, by omega, ⟨by omega, hJ.2, by
        have h3 := hI.2.2
        by_cases e : k = 0
        ·subst e; exact ⟨fun _ => hs3, fun h => by omega⟩
        ·have e1 : k = 1 := by omega
         subst e1; exact ⟨fun _ => h3.1 (by omega), fun _ => hs3⟩⟩, ⟨⟨rfl, rfl⟩, zF, zB, zN, zX⟩⟩
   ·replace hc := of_decide_eq_false hc
    obtain rfl : k = 2 := by omega
    have hRB : pj p = true := by
     unfold pj
     have h2 := hI.2.1
     have h3 := hI.2.2
     rw [decide_eq_true (h3.1 (by omega)), decide_eq_true (h3.2 (by omega)), show (p.firsts ++ p.seconds).all i0 = true from h2.1, decide_eq_true (show ((p.firsts ++ p.seconds).map (·.id)).Nodup from h2.2)]; rfl
    have hn1 : p.firsts.length ≤ 3 := hI.2.2.1 (by omega)
    have hn2 : p.seconds.length ≤ 3 := hI.2.2.2 (by omega)
    have hsl : ∀ b, (di p b).length ≤ 3 := fun b => by cases b; exact hn1; exact hn2
    refine el ?_
    refine hK8 _ ?_
    refine br fun K25 hK25 => ?_
    refine br fun K26 hK26 => ?_
    refine bj ?_
    first | refine aa rfl (c6 rfl rfl rfl) ?_ | refine aa rfl (cm rfl rfl) ?_
    try dsimp only [St.put]
    first | refine ae rfl (bw rfl rfl) ?_ | refine ae rfl (bh rfl rfl (Enc.len _)) ?_ | refine ae rfl (bh rfl rfl rfl) ?_ | refine ae rfl (ci rfl rfl zG trivial (by first | rfl | assumption)) ?_ | refine ae rfl (dc rfl rfl zG trivial (by rfl)) ?_ | refine ae rfl (dv rfl rfl zG trivial (by simp)) ?_ | refine ae rfl (bp rfl rfl zG trivial (dw (by assumption) rfl)) ?_ | refine ae rfl (bp rfl rfl zG trivial (by assumption)) ?_ | refine ae rfl (d8 rfl rfl zG trivial rfl (by assumption) rfl (by decide)) ?_ | refine ae rfl (dq rfl rfl zG (by rfl)) ?_
    first | refine aa rfl (cc rfl rfl (List.length_map _)) ?_ | refine aa rfl (cc rfl rfl rfl) ?_ | refine aa rfl (lu rfl rfl) ?_ | refine aa rfl (mh rfl rfl) ?_ | refine aa rfl (mg rfl rfl) ?_ | refine aa rfl (mf rfl rfl (by omega)) ?_
    refine aa rfl (ot rfl rfl rfl) ?_
    refine bf ?_
    dsimp only [St.put]
    refine hK26 _ ?_
    refine bc rfl (fun hc => ?_) (fun hc => ?_)
    ·have hnp : ¬ p.pages.length ≤ 8 := by
      have := of_decide_eq_true hc
      omega
     have hE : ck p = 90 := ur ht (ugv hnp)
     refine br fun K27 hK27 => ?_
     refine bj ?_
     refine aa rfl (bq rfl (by constructor)) ?_
     refine aa rfl (bq rfl (by constructor)) ?_
     refine bf ?_
     dsimp only [St.put]
     refine hK27 _ ?_
     refine ay ?_
     refine jj rfl (by constructor) (by constructor) zN zS ?_ ?_
     ·rw [ro (by rw [hE]; decide)]
     ·rw [hE]
    ·have hnp : p.pages.length ≤ 8 := by
      have := of_decide_eq_false hc
      omega
     refine bi ?_
     refine hK25 _ ?_
     refine br fun K28 hK28 => ?_
     refine bj ?_
     try dsimp only [St.put]
     first | refine ae rfl (bw rfl rfl) ?_ | refine ae rfl (bh rfl rfl (Enc.len _)) ?_ | refine ae rfl (bh rfl rfl rfl) ?_ | refine ae rfl (ci rfl rfl zG trivial (by first | rfl | assumption)) ?_ | refine ae rfl (dc rfl rfl zG trivial (by rfl)) ?_ | refine ae rfl (dv rfl rfl zG trivial (by simp)) ?_ | refine ae rfl (bp rfl rfl zG trivial (dw (by assumption) rfl)) ?_ | refine ae rfl (bp rfl rfl zG trivial (by assumption)) ?_ | refine ae rfl (d8 rfl rfl zG trivial rfl (by assumption) rfl (by decide)) ?_ | refine ae rfl (dq rfl rfl zG (by rfl)) ?_
     refine aa rfl (fh rfl rfl) ?_
     try dsimp only [St.put]
     refine ab rfl (xq rfl rfl ?_)
     refine aa rfl (bq rfl (by constructor)) ?_
     refine bf ?_
     dsimp only [St.put]
     refine hK28 _ ?_
     refine qi (nx + 1) 4 _ _ 3 1 zG rfl (by decide) ?_
     refine qi (nx + 1) 5 _ _ 36 1 zG rfl (by decide) ?_
     refine qi (nx + 1) 6 _ _ 36 1 zG rfl (by decide) ?_
     dsimp only [List.set_cons_zero, List.set_cons_succ]
     refine br fun K29 hK29 => ?_
     refine bj ?_
     refine aa rfl (bq rfl (by constructor)) ?_
     refine bf ?_
     dsimp only [St.put]
     refine hK29 _ ?_
     refine br fun K30 hK30 => ?_
     refine bj ?_
     refine aa rfl (bq rfl (by constructor)) ?_
     refine bf ?_
     dsimp only [St.put]
     refine hK30 _ ?_
     refine br fun K31 hK31 => ?_
     refine udf ?_
     refine hK31 _ ?_
     refine br fun K32 hK32 => ?_
     refine br fun K33 hK33 => ?_
     refine bj ?_
     first | refine aa rfl (c6 rfl rfl rfl) ?_ | refine aa rfl (cm rfl rfl) ?_
     try dsimp only [St.put]
     first | refine ae rfl (bw rfl rfl) ?_ | refine ae rfl (bh rfl rfl (Enc.len _)) ?_ | refine ae rfl (bh rfl rfl rfl) ?_ | refine ae rfl (ci rfl rfl zG trivial (by first | rfl | assumption)) ?_ | refine ae rfl (dc rfl rfl zG trivial (by rfl)) ?_ | refine ae rfl (dv rfl rfl zG trivial (by simp)) ?_ | refine ae rfl (bp rfl rfl zG trivial (dw (by assumption) rfl)) ?_ | refine ae rfl (bp rfl rfl zG trivial (by assumption)) ?_ | refine ae rfl (d8 rfl rfl zG trivial rfl (by assumption) rfl (by decide)) ?_ | refine ae rfl (dq rfl rfl zG (by rfl)) ?_
     first | refine aa rfl (cc rfl rfl (List.length_map _)) ?_ | refine aa rfl (cc rfl rfl rfl) ?_ | refine aa rfl (lu rfl rfl) ?_ | refine aa rfl (mh rfl rfl) ?_ | refine aa rfl (mg rfl rfl) ?_ | refine aa rfl (mf rfl rfl (by omega)) ?_
     refine aa rfl (ar rfl (by constructor)) ?_
     refine bf ?_
     dsimp only [St.put]
     refine hK33 _ ?_
     refine cd ?_
     refine du 89 ?_
     refine zQ ?_
     refine fa ((aj (aj (aj (aj G (nx + 1) (.box (0 + 0 + 0) [lst p.text, lst p.firsts, lst p.seconds, lst p.pages, .list (((p.pages.take 0).map fun x => (fb p.text x : Int)).map cells) (.tip (nx + 1 + 1)), .list (((p.pages.take 0).map (ed p.text)).map cells) (.tip (nx + 1 + 1 + 1)), .list (((p.pages.take 0).map (dn p.text)).map cells) (.tip (nx + 1 + 1 + 1 + 1))])) (nx + 1 + 1) (.tip ((p.pages.take 0).map fun x => (fb p.text x : Int)).length 3 1)) (nx + 1 + 1 + 1) (.tip ((p.pages.take 0).map (ed p.text)).length 36 1)) (nx + 1 + 1 + 1 + 1) (.tip ((p.pages.take 0).map (dn p.text)).length 36 1))) zX ?_
     dsimp only
     refine et (X := Nat) (fun j => j ≤ p.pages.length ∧ pk p j = true) (fun j => p.pages.length - j) (fun j => [(13, .v (.int .i64 (ip p.pages j))), (16, .any), (18, .any), (19, .any), (20, .any), (21, .any), (22, .any), (88, .v (.int .i64 (j : Int)))]) (fun j G' => (aj (aj (aj (aj G (nx + 1) (.box (j + j + j) [lst p.text, lst p.firsts, lst p.seconds, lst p.pages, .list (((p.pages.take j).map fun x => (fb p.text x : Int)).map cells) (.tip (nx + 1 + 1)), .list (((p.pages.take j).map (ed p.text)).map cells) (.tip (nx + 1 + 1 + 1)), .list (((p.pages.take j).map (dn p.text)).map cells) (.tip (nx + 1 + 1 + 1 + 1))])) (nx + 1 + 1) (.tip ((p.pages.take j).map fun x => (fb p.text x : Int)).length 3 1)) (nx + 1 + 1 + 1) (.tip ((p.pages.take j).map (ed p.text)).length 36 1)) (nx + 1 + 1 + 1 + 1) (.tip ((p.pages.take j).map (dn p.text)).length 36 1))) 0 rfl ?_ ?_ ?_ ?_ ?_ ?_
     ·exact ⟨Nat.zero_le _, rfl⟩
     ·exact zF
     ·exact zX
     ·rintro j hI
      exact (by (try dsimp only); repeat' (first | exact trivial | refine ⟨?_, ?_⟩ | exact .v | exact .any | refine .elem ?_ | exact bd _ _ | exact e8 _ _ | exact dz _ _ | exact fe _ (by (try dsimp only); omega) | exact .box (by (try dsimp only); omega) | exact em | exact cv | exact gn (i3 _ _) | refine fg ?_ ?_ | exact .arr (by (try dsimp only); omega) | exact .own (by (try dsimp only); omega) | exact .map (by (try dsimp only); omega) | exact ec _ | refine bn ?_ ?_ | exact bd _ _))
     ·rintro j hI
      exact (by (repeat' (refine jt ?_ (by (try dsimp only); omega) ?_)); all_goals (first | exact ju zS | (repeat' (first | exact trivial | refine ⟨?_, ?_⟩ | exact .v | exact .any | refine .elem ?_ | exact bd _ _ | exact e8 _ _ | exact dz _ _ | exact fe _ (by (try dsimp only); omega) | exact .box (by (try dsimp only); omega) | exact em | exact cv | exact gn (i3 _ _) | refine fg ?_ ?_ | exact .arr (by (try dsimp only); omega) | exact .own (by (try dsimp only); omega) | exact .map (by (try dsimp only); omega) | exact ec _ | refine bn ?_ ?_ | exact bd _ _))))
     ·rintro j hK
      dsimp only at hK ⊢
      refine br fun K34 hK34 => ?_
      refine bj ?_
      refine aa rfl (dp rfl rfl rfl) ?_
      refine bf ?_
      dsimp only [St.put]
      refine hK34 _ ?_
      refine br fun K35 hK35 => ?_
      refine bc rfl (fun hc => ?_) (fun hc => ?_)
      ·replace hc := of_decide_eq_true hc
       obtain ⟨x, hx⟩ : ∃ x, p.pages[j]? = some x := fl (by omega)
       refine bi ?_
       refine hK35 _ ?_
       refine br fun K36 hK36 => ?_
       refine cd ?_
       refine br fun K37 hK37 => ?_
       refine bj ?_
       try dsimp only [St.put]
       first | refine aa rfl (c5 rfl rfl rfl rfl (c7 (by assumption)) (Enc.len _)) ?_ | refine aa rfl (c5 rfl rfl rfl rfl (by assumption) rfl) ?_ | refine aa rfl (tw rfl rfl rfl (by first | exact ud _ | exact rfl) (by omega)) ?_ | refine aa rfl (c5 rfl rfl rfl (by omega) (c7 (by assumption)) (Enc.len _)) ?_
       try dsimp only [St.put]
       first | refine ae rfl (bw rfl rfl) ?_ | refine ae rfl (bh rfl rfl (Enc.len _)) ?_ | refine ae rfl (bh rfl rfl rfl) ?_ | refine ae rfl (ci rfl rfl zG trivial (by first | rfl | assumption)) ?_ | refine ae rfl (dc rfl rfl zG trivial (by rfl)) ?_ | refine ae rfl (dv rfl rfl zG trivial (by simp)) ?_ | refine ae rfl (bp rfl rfl zG trivial (dw (by assumption) rfl)) ?_ | refine ae rfl (bp rfl rfl zG trivial (by assumption)) ?_ | refine ae rfl (d8 rfl rfl zG trivial rfl (by assumption) rfl (by decide)) ?_ | refine ae rfl (dq rfl rfl zG (by rfl)) ?_
       try dsimp only [St.put]
       refine ab rfl (dg rfl ?_)
       try dsimp only [St.put]
       first | refine ab rfl (cn rfl rfl rfl zG rfl rfl (by rfl) ?_) | refine ab rfl (gi rfl rfl rfl zG (by constructor) rfl zO ?_)
       refine bf ?_
       dsimp only [St.put]
       refine hK37 _ ?_
       refine fj (i := 16) rfl zG zC ?_
       dsimp only
       refine du 89 ?_
       refine zQ ?_
       refine n2 (X := Bool) (fun d0 => d0 = om p (ip p.pages j) x) (fun d0 => [(14, .v (.bool d0))]) (fun d0 G' => G') rfl ?_ (fun _ _ _ _ h => .inl h) ?_ ?_
       ·rintro d0 hI
        exact (by (try dsimp only); repeat' (first | exact trivial | refine ⟨?_, ?_⟩ | exact .v | exact .any | refine .elem ?_ | exact bd _ _ | exact e8 _ _ | exact dz _ _ | exact fe _ (by (try dsimp only); omega) | exact .box (by (try dsimp only); omega) | exact em | exact cv | exact gn (i3 _ _) | refine fg ?_ ?_ | exact .arr (by (try dsimp only); omega) | exact .own (by (try dsimp only); omega) | exact .map (by (try dsimp only); omega) | exact ec _ | refine bn ?_ ?_ | exact bd _ _))
       ·refine bj ?_
        first | refine aa rfl (c6 rfl rfl rfl) ?_ | refine aa rfl (cm rfl rfl) ?_
        try dsimp only [St.put]
        first | refine ae rfl (bw rfl rfl) ?_ | refine ae rfl (bh rfl rfl (Enc.len _)) ?_ | refine ae rfl (bh rfl rfl rfl) ?_ | refine ae rfl (ci rfl rfl zG trivial (by first | rfl | assumption)) ?_ | refine ae rfl (dc rfl rfl zG trivial (by rfl)) ?_ | refine ae rfl (dv rfl rfl zG trivial (by simp)) ?_ | refine ae rfl (bp rfl rfl zG trivial (dw (by assumption) rfl)) ?_ | refine ae rfl (bp rfl rfl zG trivial (by assumption)) ?_ | refine ae rfl (d8 rfl rfl zG trivial rfl (by assumption) rfl (by decide)) ?_ | refine ae rfl (dq rfl rfl zG (by rfl)) ?_
        refine aa rfl (ar rfl (by constructor)) ?_
        refine aa rfl (ot rfl rfl rfl) ?_
        refine aa rfl (ar rfl (by constructor)) ?_
        refine ir (fun hs => ?_) (fun hs => ?_)
        ·have z1 : ip p.pages j < x.fr := of_decide_eq_true hs
         first | refine aa rfl (c6 rfl rfl rfl) ?_ | refine aa rfl (cm rfl rfl) ?_
         try dsimp only [St.put]
         first | refine ae rfl (bw rfl rfl) ?_ | refine ae rfl (bh rfl rfl (Enc.len _)) ?_ | refine ae rfl (bh rfl rfl rfl) ?_ | refine ae rfl (ci rfl rfl zG trivial (by first | rfl | assumption)) ?_ | refine ae rfl (dc rfl rfl zG trivial (by rfl)) ?_ | refine ae rfl (dv rfl rfl zG trivial (by simp)) ?_ | refine ae rfl (bp rfl rfl zG trivial (dw (by assumption) rfl)) ?_ | refine ae rfl (bp rfl rfl zG trivial (by assumption)) ?_ | refine ae rfl (d8 rfl rfl zG trivial rfl (by assumption) rfl (by decide)) ?_ | refine ae rfl (dq rfl rfl zG (by rfl)) ?_
         first | refine aa rfl (c6 rfl rfl rfl) ?_ | refine aa rfl (cm rfl rfl) ?_
         try dsimp only [St.put]
         first | refine ae rfl (bw rfl rfl) ?_ | refine ae rfl (bh rfl rfl (Enc.len _)) ?_ | refine ae rfl (bh rfl rfl rfl) ?_ | refine ae rfl (ci rfl rfl zG trivial (by first | rfl | assumption)) ?_ | refine ae rfl (dc rfl rfl zG trivial (by rfl)) ?_ | refine ae rfl (dv rfl rfl zG trivial (by simp)) ?_ | refine ae rfl (bp rfl rfl zG trivial (dw (by assumption) rfl)) ?_ | refine ae rfl (bp rfl rfl zG trivial (by assumption)) ?_ | refine ae rfl (d8 rfl rfl zG trivial rfl (by assumption) rfl (by decide)) ?_ | refine ae rfl (dq rfl rfl zG (by rfl)) ?_
         refine aa rfl (uas rfl rfl rfl) ?_
         first | refine aa rfl (bz rfl rfl (by constructor)) ?_ | refine aa rfl (cj rfl rfl (by constructor)) ?_ | refine aa rfl (dl rfl rfl rfl rfl) ?_ | refine aa rfl (dj rfl rfl rfl rfl) ?_
         refine aa rfl (ar rfl (by constructor)) ?_
         refine ir (fun hs => ?_) (fun hs => ?_)
         ·have z2 : x.fr ≤ x.to := of_decide_eq_true hs
          first | refine aa rfl (c6 rfl rfl rfl) ?_ | refine aa rfl (cm rfl rfl) ?_
          try dsimp only [St.put]
          first | refine ae rfl (bw rfl rfl) ?_ | refine ae rfl (bh rfl rfl (Enc.len _)) ?_ | refine ae rfl (bh rfl rfl rfl) ?_ | refine ae rfl (ci rfl rfl zG trivial (by first | rfl | assumption)) ?_ | refine ae rfl (dc rfl rfl zG trivial (by rfl)) ?_ | refine ae rfl (dv rfl rfl zG trivial (by simp)) ?_ | refine ae rfl (bp rfl rfl zG trivial (dw (by assumption) rfl)) ?_ | refine ae rfl (bp rfl rfl zG trivial (by assumption)) ?_ | refine ae rfl (d8 rfl rfl zG trivial rfl (by assumption) rfl (by decide)) ?_ | refine ae rfl (dq rfl rfl zG (by rfl)) ?_
          refine aa rfl (ar rfl (by constructor)) ?_
          refine aa rfl (dp rfl rfl rfl) ?_
          first | refine aa rfl (bz rfl rfl (by constructor)) ?_ | refine aa rfl (cj rfl rfl (by constructor)) ?_ | refine aa rfl (dl rfl rfl rfl rfl) ?_ | refine aa rfl (dj rfl rfl rfl rfl) ?_
          refine aa rfl (bq rfl (by constructor)) ?_
          refine bf ?_
          dsimp only [St.put]
          refine ⟨_, ?_, ⟨⟨rfl, rfl⟩, zF, zB, zN, zX⟩⟩
          unfold om
          first
          | (simp [z1]; done)
          | (simp [z1, z2]; done)
          | (simp [z1]; omega)
         ·have z2 : ¬ x.fr ≤ x.to := of_decide_eq_false hs
          refine cz rfl ?_
          refine cz rfl ?_
          refine cz rfl ?_
          refine cz rfl ?_
          first | refine aa rfl (bz rfl rfl (by constructor)) ?_ | refine aa rfl (cj rfl rfl (by constructor)) ?_ | refine aa rfl (dl rfl rfl rfl rfl) ?_ | refine aa rfl (dj rfl rfl rfl rfl) ?_
          refine aa rfl (bq rfl (by constructor)) ?_
          refine bf ?_
          dsimp only [St.put]
          refine ⟨_, ?_, ⟨⟨rfl, rfl⟩, zF, zB, zN, zX⟩⟩
          unfold om
          first
          | (simp [z1]; done)
          | (simp [z1, z2]; done)
          | (simp [z1]; omega)
        ·have z1 : ¬ ip p.pages j < x.fr := of_decide_eq_false hs
         refine cz rfl ?_
         refine cz rfl ?_
         refine cz rfl ?_
         refine cz rfl ?_
         refine cz rfl ?_
         first | refine aa rfl (bz rfl rfl (by constructor)) ?_ | refine aa rfl (cj rfl rfl (by constructor)) ?_ | refine aa rfl (dl rfl rfl rfl rfl) ?_ | refine aa rfl (dj rfl rfl rfl rfl) ?_
         refine aa rfl (ar rfl (by constructor)) ?_
         refine cz rfl ?_
         refine cz rfl ?_
         refine cz rfl ?_
         refine cz rfl ?_
         first | refine aa rfl (bz rfl rfl (by constructor)) ?_ | refine aa rfl (cj rfl rfl (by constructor)) ?_ | refine aa rfl (dl rfl rfl rfl rfl) ?_ | refine aa rfl (dj rfl rfl rfl rfl) ?_
         refine aa rfl (bq rfl (by constructor)) ?_
         refine bf ?_
         dsimp only [St.put]
         refine ⟨_, ?_, ⟨⟨rfl, rfl⟩, zF, zB, zN, zX⟩⟩
         unfold om
         first
         | (simp [z1]; done)
         | (simp [z1, z2]; done)
         | (simp [z1]; omega)
       ·rintro d0 hst0
        dsimp only at hst0 ⊢
        subst hst0
        refine br fun K39 hK39 => ?_
        refine br fun K40 hK40 => ?_
        refine bj ?_
        try dsimp only [St.put]
        refine ae rfl (dq (n := 6) (m := n) rfl rfl zG rfl) ?_
        refine aa rfl (ar rfl (by constructor)) ?_
        refine bf ?_
        dsimp only [St.put]
        refine hK40 _ ?_
        refine cd ?_
        refine du 111 ?_
        refine zQ ?_
        refine fa ((aj (aj (aj (aj G (nx + 1) (.box (j + j + j) [lst p.text, lst p.firsts, lst p.seconds, lst p.pages, .list (((p.pages.take j).map fun x => (fb p.text x : Int)).map cells) (.tip (nx + 1 + 1)), .list (((p.pages.take j).map (ed p.text)).map cells) (.tip (nx + 1 + 1 + 1)), .list (((p.pages.take j).map (dn p.text)).map cells) (.tip (nx + 1 + 1 + 1 + 1))])) (nx + 1 + 1) (.tip ((p.pages.take j).map fun x => (fb p.text x : Int)).length 3 1)) (nx + 1 + 1 + 1) (.tip ((p.pages.take j).map (ed p.text)).length 36 1)) (nx + 1 + 1 + 1 + 1) (.tip ((p.pages.take j).map (dn p.text)).length 36 1))) zX ?_
        dsimp only
        refine et (X := Nat) (fun k => k ≤ 2) (fun k => 2 - k) (fun k => [(14, .v (.bool (m6 p (ip p.pages j) x k))), (18, .any), (19, .any), (20, .any), (21, .any), (22, .any), (110, .v (.int .i64 (k : Int)))]) (fun k G' => G') 0 rfl ?_ ?_ (fun _ _ h => h) ?_ ?_ ?_
        ·exact Nat.zero_le _
        ·exact zF
        ·rintro k hI
         exact (by (try dsimp only); repeat' (first | exact trivial | refine ⟨?_, ?_⟩ | exact .v | exact .any | refine .elem ?_ | exact bd _ _ | exact e8 _ _ | exact dz _ _ | exact fe _ (by (try dsimp only); omega) | exact .box (by (try dsimp only); omega) | exact em | exact cv | exact gn (i3 _ _) | refine fg ?_ ?_ | exact .arr (by (try dsimp only); omega) | exact .own (by (try dsimp only); omega) | exact .map (by (try dsimp only); omega) | exact ec _ | refine bn ?_ ?_ | exact bd _ _))
        ·exact fun _ _ _ _ h => .inl h
        ·rintro k hS
         dsimp only at hS ⊢
         refine br fun K41 hK41 => ?_
         refine bj ?_
         refine aa rfl (dp rfl rfl rfl) ?_
         refine bf ?_
         dsimp only [St.put]
         refine hK41 _ ?_
         refine br fun K42 hK42 => ?_
         refine bc rfl (fun hc => ?_) (fun hc => ?_)
         ·replace hc := of_decide_eq_true hc
          have hk2 : k < 2 := by omega
          have hslk := hsl (decide (k = 1))
          refine bi ?_
          refine hK42 _ ?_
          refine br fun K43 hK43 => ?_
          refine cd ?_
          refine br fun K44 hK44 => ?_
          refine bj ?_
          refine aa rfl (tv (k := k) (m := 2) (sz := 3) rfl rfl rfl rfl hk2 (s8 hk2)) ?_
          try dsimp only [St.put]
          refine ab rfl (dg rfl ?_)
          try dsimp only [St.put]
          first | refine ab rfl (cn rfl rfl rfl zG rfl rfl (by rfl) ?_) | refine ab rfl (gi rfl rfl rfl zG (by constructor) rfl zO ?_)
          refine bf ?_
          dsimp only [St.put]
          refine hK44 _ ?_
          refine fj (i := 18) rfl zG zC ?_
          dsimp only
          refine du 111 ?_
          refine zQ ?_
          refine n2 (X := Unit) (fun _ => True) (fun _ => [(19, .v (.int .i64 (eu (decide (k = 1)) x))), (20, lst (cw (decide (k = 1)) x))]) (fun _ G' => G') rfl ?_ (fun _ _ _ _ h => .inl h) ?_ ?_
          ·rintro _ hI
           exact (by (try dsimp only); repeat' (first | exact trivial | refine ⟨?_, ?_⟩ | exact .v | exact .any | refine .elem ?_ | exact bd _ _ | exact e8 _ _ | exact dz _ _ | exact fe _ (by (try dsimp only); omega) | exact .box (by (try dsimp only); omega) | exact em | exact cv | exact gn (i3 _ _) | refine fg ?_ ?_ | exact .arr (by (try dsimp only); omega) | exact .own (by (try dsimp only); omega) | exact .map (by (try dsimp only); omega) | exact ec _ | refine bn ?_ ?_ | exact bd _ _))
          ·refine ia [(0, none), (1, none), (2, none), (4, none), (5, none), (6, none), (3, none), (7, none), (8, none), (9, none)] (fun i => [7].contains i) (fun i => [3, 7].contains i) (fun i => [0, 4, 8, 9].contains i) [] (by kernel_rfl) (by kernel_rfl) ?_
           first | refine ai rfl rfl rfl rfl (c6 rfl rfl rfl) ?_ | refine ai rfl rfl rfl rfl (cm rfl rfl) ?_
           try dsimp only [St.put]
           first | refine ak rfl rfl rfl rfl (bw rfl rfl) ?_ | refine ak rfl rfl rfl rfl (bh rfl rfl (Enc.len _)) ?_ | refine ak rfl rfl rfl rfl (bh rfl rfl rfl) ?_ | refine ak rfl rfl rfl rfl (ci rfl rfl zG (by simp) (by first | rfl | assumption)) ?_ | refine ak rfl rfl rfl rfl (dc rfl rfl zG (by simp) (by rfl)) ?_ | refine ak rfl rfl rfl rfl (dv rfl rfl zG (by simp) (by simp)) ?_ | refine ak rfl rfl rfl rfl (bp rfl rfl zG (by simp) (dw (by assumption) rfl)) ?_ | refine ak rfl rfl rfl rfl (bp rfl rfl zG (by simp) (by assumption)) ?_ | refine ak rfl rfl rfl rfl (d8 rfl rfl zG (by simp) rfl (by assumption) rfl (by decide)) ?_ | refine ak rfl rfl rfl rfl (dq rfl rfl zG (by rfl)) ?_
           try dsimp only [St.put]
           first | refine ak rfl rfl rfl rfl (bw rfl rfl) ?_ | refine ak rfl rfl rfl rfl (bh rfl rfl (Enc.len _)) ?_ | refine ak rfl rfl rfl rfl (bh rfl rfl rfl) ?_ | refine ak rfl rfl rfl rfl (ci rfl rfl zG (by simp) (by first | rfl | assumption)) ?_ | refine ak rfl rfl rfl rfl (dc rfl rfl zG (by simp) (by rfl)) ?_ | refine ak rfl rfl rfl rfl (dv rfl rfl zG (by simp) (by simp)) ?_ | refine ak rfl rfl rfl rfl (bp rfl rfl zG (by simp) (dw (by assumption) rfl)) ?_ | refine ak rfl rfl rfl rfl (bp rfl rfl zG (by simp) (by assumption)) ?_ | refine ak rfl rfl rfl rfl (d8 rfl rfl zG (by simp) rfl (by assumption) rfl (by decide)) ?_ | refine ak rfl rfl rfl rfl (dq rfl rfl zG (by rfl)) ?_
           first | refine ai rfl rfl rfl rfl (c6 rfl rfl rfl) ?_ | refine ai rfl rfl rfl rfl (cm rfl rfl) ?_
           try dsimp only [St.put]
           first | refine ak rfl rfl rfl rfl (bw rfl rfl) ?_ | refine ak rfl rfl rfl rfl (bh rfl rfl (Enc.len _)) ?_ | refine ak rfl rfl rfl rfl (bh rfl rfl rfl) ?_ | refine ak rfl rfl rfl rfl (ci rfl rfl zG (by simp) (by first | rfl | assumption)) ?_ | refine ak rfl rfl rfl rfl (dc rfl rfl zG (by simp) (by rfl)) ?_ | refine ak rfl rfl rfl rfl (dv rfl rfl zG (by simp) (by simp)) ?_ | refine ak rfl rfl rfl rfl (bp rfl rfl zG (by simp) (dw (by assumption) rfl)) ?_ | refine ak rfl rfl rfl rfl (bp rfl rfl zG (by simp) (by assumption)) ?_ | refine ak rfl rfl rfl rfl (d8 rfl rfl zG (by simp) rfl (by assumption) rfl (by decide)) ?_ | refine ak rfl rfl rfl rfl (dq rfl rfl zG (by rfl)) ?_
           try dsimp only [St.put]
           first | refine ak rfl rfl rfl rfl (bw rfl rfl) ?_ | refine ak rfl rfl rfl rfl (bh rfl rfl (Enc.len _)) ?_ | refine ak rfl rfl rfl rfl (bh rfl rfl rfl) ?_ | refine ak rfl rfl rfl rfl (ci rfl rfl zG (by simp) (by first | rfl | assumption)) ?_ | refine ak rfl rfl rfl rfl (dc rfl rfl zG (by simp) (by rfl)) ?_ | refine ak rfl rfl rfl rfl (dv rfl rfl zG (by simp) (by simp)) ?_ | refine ak rfl rfl rfl rfl (bp rfl rfl zG (by simp) (dw (by assumption) rfl)) ?_ | refine ak rfl rfl rfl rfl (bp rfl rfl zG (by simp) (by assumption)) ?_ | refine ak rfl rfl rfl rfl (d8 rfl rfl zG (by simp) rfl (by assumption) rfl (by decide)) ?_ | refine ak rfl rfl rfl rfl (dq rfl rfl zG (by rfl)) ?_
           refine jb ?_
           try dsimp only [St.put]
           refine ki rfl rfl rfl (az rfl rfl rfl (vv (decide (k = 1)) x) ⟨zD, ?_⟩)
           try dsimp only [St.put]
           refine gz rfl rfl rfl rfl (az rfl rfl rfl (y7 (decide (k = 1)) x) ?_)
           refine ef rfl rfl rfl rfl (bq rfl (by constructor)) ?_
           refine ef rfl rfl rfl rfl (bq rfl (by constructor)) ?_
           refine ja ?_
           dsimp only [St.put]
           exact ⟨(), trivial, ⟨⟨rfl, rfl⟩, zF, zB, zN, zX⟩⟩
          ·rintro _ h31
           dsimp only at h31 ⊢
           refine du 111 ?_
           refine zQ ?_
           refine n2 (X := Bool) (fun d => d = (m6 p (ip p.pages j) x k && (inB (eu (decide (k = 1)) x) (-1) (((di p (decide (k = 1))).length : Int) - 1) && (decide (0 ≤ eu (decide (k = 1)) x) || decide (cw (decide (k = 1)) x = []))))) (fun d => [(14, .v (.bool d))]) (fun d G' => G') rfl ?_ (fun _ _ _ _ h => .inl h) ?_ ?_
           ·rintro d hI
            exact (by (try dsimp only); repeat' (first | exact trivial | refine ⟨?_, ?_⟩ | exact .v | exact .any | refine .elem ?_ | exact bd _ _ | exact e8 _ _ | exact dz _ _ | exact fe _ (by (try dsimp only); omega) | exact .box (by (try dsimp only); omega) | exact em | exact cv | exact gn (i3 _ _) | refine fg ?_ ?_ | exact .arr (by (try dsimp only); omega) | exact .own (by (try dsimp only); omega) | exact .map (by (try dsimp only); omega) | exact ec _ | refine bn ?_ ?_ | exact bd _ _))
           ·refine bj ?_
            refine aa rfl (ar rfl (by constructor)) ?_
            refine aa rfl (ar rfl (by constructor)) ?_
            refine ir (fun hs => ?_) (fun hs => ?_)
            ·have s0 : m6 p (ip p.pages j) x k = true := hs
             first | refine aa rfl (c6 rfl rfl rfl) ?_ | refine aa rfl (cm rfl rfl) ?_
             try dsimp only [St.put]
             first | refine ae rfl (bw rfl rfl) ?_ | refine ae rfl (bh rfl rfl (Enc.len _)) ?_ | refine ae rfl (bh rfl rfl rfl) ?_ | refine ae rfl (ci rfl rfl zG trivial (by first | rfl | assumption)) ?_ | refine ae rfl (dc rfl rfl zG trivial (by rfl)) ?_ | refine ae rfl (dv rfl rfl zG trivial (by simp)) ?_ | refine ae rfl (bp rfl rfl zG trivial (dw (by assumption) rfl)) ?_ | refine ae rfl (bp rfl rfl zG trivial (by assumption)) ?_ | refine ae rfl (d8 rfl rfl zG trivial rfl (by assumption) rfl (by decide)) ?_ | refine ae rfl (dq rfl rfl zG (by rfl)) ?_
             try dsimp only [St.put]
             first | refine ae rfl (bw rfl rfl) ?_ | refine ae rfl (bh rfl rfl (Enc.len _)) ?_ | refine ae rfl (bh rfl rfl rfl) ?_ | refine ae rfl (ci rfl rfl zG trivial (by first | rfl | assumption)) ?_ | refine ae rfl (dc rfl rfl zG trivial (by rfl)) ?_ | refine ae rfl (dv rfl rfl zG trivial (by simp)) ?_ | refine ae rfl (bp rfl rfl zG trivial (dw (by assumption) rfl)) ?_ | refine ae rfl (bp rfl rfl zG trivial (by assumption)) ?_ | refine ae rfl (d8 rfl rfl zG trivial rfl (by assumption) rfl (by decide)) ?_ | refine ae rfl (dq rfl rfl zG (by rfl)) ?_
             try dsimp only [St.put]
             refine ab rfl (az rfl rfl rfl (m7 (decide (k = 1)) p) ?_)
             first | refine aa rfl (cc rfl rfl (List.length_map _)) ?_ | refine aa rfl (cc rfl rfl rfl) ?_ | refine aa rfl (lu rfl rfl) ?_ | refine aa rfl (mh rfl rfl) ?_ | refine aa rfl (mg rfl rfl) ?_ | refine aa rfl (mf rfl rfl (by omega)) ?_
             first | refine aa rfl (je rfl rfl rfl (by omega)) ?_ | refine aa rfl (uao rfl rfl rfl) ?_
             refine aa rfl (ar rfl (by constructor)) ?_
             try dsimp only [St.put]
             refine ab rfl (cy rfl rfl rfl (by decide) (by decide) zR (by decide) ?_)
             try dsimp only [St.put]
             refine ab rfl (az rfl rfl rfl (ll _ _ [_]) ?_)
             first | refine aa rfl (bz rfl rfl (by constructor)) ?_ | refine aa rfl (cj rfl rfl (by constructor)) ?_ | refine aa rfl (dl rfl rfl rfl rfl) ?_ | refine aa rfl (dj rfl rfl rfl rfl) ?_
             refine aa rfl (ar rfl (by constructor)) ?_
             refine ir (fun hs => ?_) (fun hs => ?_)
             ·have s1 : inB (eu (decide (k = 1)) x) (-1) (((di p (decide (k = 1))).length : Int) - 1) = true := by rw [fw] at hs; exact hs
              refine aa rfl (ar rfl (by constructor)) ?_
              refine aa rfl (pq rfl rfl rfl) ?_
              refine aa rfl (ar rfl (by constructor)) ?_
              refine ir (fun hs => ?_) (fun hs => ?_)
              ·have s2 : 0 ≤ eu (decide (k = 1)) x := of_decide_eq_true hs
               refine cz rfl ?_
               refine cz rfl ?_
               refine cz rfl ?_
               first | refine aa rfl (bz rfl rfl (by constructor)) ?_ | refine aa rfl (cj rfl rfl (by constructor)) ?_ | refine aa rfl (dl rfl rfl rfl rfl) ?_ | refine aa rfl (dj rfl rfl rfl rfl) ?_
               first | refine aa rfl (bz rfl rfl (by constructor)) ?_ | refine aa rfl (cj rfl rfl (by constructor)) ?_ | refine aa rfl (dl rfl rfl rfl rfl) ?_ | refine aa rfl (dj rfl rfl rfl rfl) ?_
               refine aa rfl (bq rfl (by constructor)) ?_
               refine bf ?_
               dsimp only [St.put]
               refine ⟨_, ?_, ⟨⟨rfl, rfl⟩, zF, zB, zN, zX⟩⟩
               first
               | (rw [s0]; simp; done)
               | (rw [s0, s1]; simp; done)
               | (rw [s0, s1, decide_eq_true s2]; simp; done)
               | (rw [s0, s1, decide_eq_false s2, Bool.true_and, Bool.true_and, Bool.false_or, decide_eq_decide]; exact nil_len.symm)
              ·have s2 : ¬ 0 ≤ eu (decide (k = 1)) x := of_decide_eq_false hs
               refine aa rfl (ar rfl (by constructor)) ?_
               first | refine aa rfl (cc rfl rfl (List.length_map _)) ?_ | refine aa rfl (cc rfl rfl rfl) ?_ | refine aa rfl (lu rfl rfl) ?_ | refine aa rfl (mh rfl rfl) ?_ | refine aa rfl (mg rfl rfl) ?_ | refine aa rfl (mf rfl rfl (by omega)) ?_
               refine aa rfl (eh rfl rfl rfl) ?_
               first | refine aa rfl (bz rfl rfl (by constructor)) ?_ | refine aa rfl (cj rfl rfl (by constructor)) ?_ | refine aa rfl (dl rfl rfl rfl rfl) ?_ | refine aa rfl (dj rfl rfl rfl rfl) ?_
               first | refine aa rfl (bz rfl rfl (by constructor)) ?_ | refine aa rfl (cj rfl rfl (by constructor)) ?_ | refine aa rfl (dl rfl rfl rfl rfl) ?_ | refine aa rfl (dj rfl rfl rfl rfl) ?_
               refine aa rfl (bq rfl (by constructor)) ?_
               refine bf ?_
               dsimp only [St.put]
               refine ⟨_, ?_, ⟨⟨rfl, rfl⟩, zF, zB, zN, zX⟩⟩
               first
               | (rw [s0]; simp; done)
               | (rw [s0, s1]; simp; done)
               | (rw [s0, s1, decide_eq_true s2]; simp; done)
               | (rw [s0, s1, decide_eq_false s2, Bool.true_and, Bool.true_and, Bool.false_or, decide_eq_decide]; exact nil_len.symm)
             ·have s1 : inB (eu (decide (k = 1)) x) (-1) (((di p (decide (k = 1))).length : Int) - 1) = false := by rw [fw] at hs; exact hs
              refine cz rfl ?_
              refine cz rfl ?_
              refine cz rfl ?_
              refine cz rfl ?_
              refine cz rfl ?_
              refine cz rfl ?_
              refine cz rfl ?_
              first | refine aa rfl (bz rfl rfl (by constructor)) ?_ | refine aa rfl (cj rfl rfl (by constructor)) ?_ | refine aa rfl (dl rfl rfl rfl rfl) ?_ | refine aa rfl (dj rfl rfl rfl rfl) ?_
              refine aa rfl (bq rfl (by constructor)) ?_
              refine bf ?_
              dsimp only [St.put]
              refine ⟨_, ?_, ⟨⟨rfl, rfl⟩, zF, zB, zN, zX⟩⟩
              first
              | (rw [s0]; simp; done)
              | (rw [s0, s1]; simp; done)
              | (rw [s0, s1, decide_eq_true s2]; simp; done)
              | (rw [s0, s1, decide_eq_false s2, Bool.true_and, Bool.true_and, Bool.false_or, decide_eq_decide]; exact nil_len.symm)
            ·have s0 : m6 p (ip p.pages j) x k = false := hs
             refine cz rfl ?_
             refine cz rfl ?_
             refine cz rfl ?_
             refine cz rfl ?_
             refine cz rfl ?_
             refine cz rfl ?_
             refine cz rfl ?_
             refine cz rfl ?_
             refine cz rfl ?_
             first | refine aa rfl (bz rfl rfl (by constructor)) ?_ | refine aa rfl (cj rfl rfl (by constructor)) ?_ | refine aa rfl (dl rfl rfl rfl rfl) ?_ | refine aa rfl (dj rfl rfl rfl rfl) ?_
             refine aa rfl (ar rfl (by constructor)) ?_
             refine cz rfl ?_
             refine cz rfl ?_
             refine cz rfl ?_
             refine cz rfl ?_
             refine cz rfl ?_
             refine cz rfl ?_
             refine cz rfl ?_
             first | refine aa rfl (bz rfl rfl (by constructor)) ?_ | refine aa rfl (cj rfl rfl (by constructor)) ?_ | refine aa rfl (dl rfl rfl rfl rfl) ?_ | refine aa rfl (dj rfl rfl rfl rfl) ?_
             refine aa rfl (bq rfl (by constructor)) ?_
             refine bf ?_
             dsimp only [St.put]
             refine ⟨_, ?_, ⟨⟨rfl, rfl⟩, zF, zB, zN, zX⟩⟩
             first
             | (rw [s0]; simp; done)
             | (rw [s0, s1]; simp; done)
             | (rw [s0, s1, decide_eq_true s2]; simp; done)
             | (rw [s0, s1, decide_eq_false s2, Bool.true_and, Bool.true_and, Bool.false_or, decide_eq_decide]; exact nil_len.symm)
           ·rintro d hd
            dsimp only at hd ⊢
            refine br fun K47 hK47 => ?_
            refine n1 20 (fun hfit => ?_)
            have hfll := (fit_lst.1 hfit).1
            rw [show (C.v (.bool d)) = .v (.bool (d && dm p.text x (cw (decide (k = 1)) x) 0)) by simp [dm]]
            refine bj ?_
            refine aa rfl (ar rfl (by constructor)) ?_
            first | refine aa rfl (cc rfl rfl (List.length_map _)) ?_ | refine aa rfl (cc rfl rfl rfl) ?_ | refine aa rfl (lu rfl rfl) ?_ | refine aa rfl (mh rfl rfl) ?_ | refine aa rfl (mg rfl rfl) ?_ | refine aa rfl (mf rfl rfl (by omega)) ?_
            refine aa rfl (ar rfl (by constructor)) ?_
            refine bf ?_
            dsimp only [St.put]
            refine hK47 _ ?_
            refine cd ?_
            refine du 145 ?_
            refine zQ ?_
            refine fa ((aj (aj (aj (aj G (nx + 1) (.box (j + j + j) [lst p.text, lst p.firsts, lst p.seconds, lst p.pages, .list (((p.pages.take j).map fun x => (fb p.text x : Int)).map cells) (.tip (nx + 1 + 1)), .list (((p.pages.take j).map (ed p.text)).map cells) (.tip (nx + 1 + 1 + 1)), .list (((p.pages.take j).map (dn p.text)).map cells) (.tip (nx + 1 + 1 + 1 + 1))])) (nx + 1 + 1) (.tip ((p.pages.take j).map fun x => (fb p.text x : Int)).length 3 1)) (nx + 1 + 1 + 1) (.tip ((p.pages.take j).map (ed p.text)).length 36 1)) (nx + 1 + 1 + 1 + 1) (.tip ((p.pages.take j).map (dn p.text)).length 36 1))) zX ?_
            dsimp only
            refine et (X := Nat) (fun i => i ≤ (cw (decide (k = 1)) x).length) (fun i => (cw (decide (k = 1)) x).length - i) (fun i => [(14, .v (.bool (d && dm p.text x (cw (decide (k = 1)) x) i))), (21, .any), (22, .any), (144, .v (.int .i64 (i : Int)))]) (fun i G' => G') 0 rfl ?_ ?_ (fun _ _ h => h) ?_ ?_ ?_
            ·exact Nat.zero_le _
            ·exact zF
            ·rintro i hI
             exact (by (try dsimp only); repeat' (first | exact trivial | refine ⟨?_, ?_⟩ | exact .v | exact .any | refine .elem ?_ | exact bd _ _ | exact e8 _ _ | exact dz _ _ | exact fe _ (by (try dsimp only); omega) | exact .box (by (try dsimp only); omega) | exact em | exact cv | exact gn (i3 _ _) | refine fg ?_ ?_ | exact .arr (by (try dsimp only); omega) | exact .own (by (try dsimp only); omega) | exact .map (by (try dsimp only); omega) | exact ec _ | refine bn ?_ ?_ | exact bd _ _))
            ·exact fun _ _ _ _ h => .inl h
            ·rintro i hT
             dsimp only at hT ⊢
             refine br fun K48 hK48 => ?_
             refine bj ?_
             refine aa rfl (dp rfl rfl rfl) ?_
             refine bf ?_
             dsimp only [St.put]
             refine hK48 _ ?_
             refine br fun K49 hK49 => ?_
             refine bc rfl (fun hc => ?_) (fun hc => ?_)
             ·replace hc := of_decide_eq_true hc
              obtain ⟨q, hq⟩ : ∃ q, (cw (decide (k = 1)) x)[i]? = some q := fl (by omega)
              refine bi ?_
              refine hK49 _ ?_
              refine br fun K50 hK50 => ?_
              refine cd ?_
              refine br fun K51 hK51 => ?_
              refine bj ?_
              refine aa rfl (ar rfl (by constructor)) ?_
              try dsimp only [St.put]
              first | refine aa rfl (c5 rfl rfl rfl rfl (c7 (by assumption)) (Enc.len _)) ?_ | refine aa rfl (c5 rfl rfl rfl rfl (by assumption) rfl) ?_ | refine aa rfl (tw rfl rfl rfl (by first | exact ud _ | exact rfl) (by omega)) ?_ | refine aa rfl (c5 rfl rfl rfl (by omega) (c7 (by assumption)) (Enc.len _)) ?_
              try dsimp only [St.put]
              first | refine ae rfl (bw rfl rfl) ?_ | refine ae rfl (bh rfl rfl (Enc.len _)) ?_ | refine ae rfl (bh rfl rfl rfl) ?_ | refine ae rfl (ci rfl rfl zG trivial (by first | rfl | assumption)) ?_ | refine ae rfl (dc rfl rfl zG trivial (by rfl)) ?_ | refine ae rfl (dv rfl rfl zG trivial (by simp)) ?_ | refine ae rfl (bp rfl rfl zG trivial (dw (by assumption) rfl)) ?_ | refine ae rfl (bp rfl rfl zG trivial (by assumption)) ?_ | refine ae rfl (d8 rfl rfl zG trivial rfl (by assumption) rfl (by decide)) ?_ | refine ae rfl (dq rfl rfl zG (by rfl)) ?_
              try dsimp only [St.put]
              refine ab rfl (dg rfl ?_)
              refine aa rfl (bq rfl (by constructor)) ?_
              try dsimp only [St.put]
              first | refine ab rfl (cn rfl rfl rfl zG rfl rfl (by rfl) ?_) | refine ab rfl (gi rfl rfl rfl zG (by constructor) rfl zO ?_)
              refine bf ?_
              dsimp only [St.put]
              refine hK51 _ ?_
              refine fj (i := 22) rfl zG zC ?_
              dsimp only
              refine udh [(0, none), (1, none), (2, none), (3, none), (4, none)] (fun _ => false) (fun i => [0, 1, 2].contains i) 33 (rl [5, 33]) (by kernel_rfl) (by kernel_rfl) ?_
              refine ai rfl rfl rfl rfl (ar rfl (by constructor)) ?_
              refine ai rfl rfl rfl rfl (ar rfl (by constructor)) ?_
              refine sn (fun hs => ?_) (fun hs => ?_)
              ·have w0 : (d && dm p.text x (cw (decide (k = 1)) x) i) = true := hs
               first | refine ai rfl rfl rfl rfl (c6 rfl rfl rfl) ?_ | refine ai rfl rfl rfl rfl (cm rfl rfl) ?_
               try dsimp only [St.put]
               refine ak rfl rfl rfl rfl (c := oe p.text) (kn (cs := cells p) rfl rfl (show 1 ≤ 4 by decide)) ?_
               try dsimp only [St.put]
               first | refine ak rfl rfl rfl rfl (bw rfl rfl) ?_ | refine ak rfl rfl rfl rfl (bh rfl rfl (Enc.len _)) ?_ | refine ak rfl rfl rfl rfl (bh rfl rfl rfl) ?_ | refine ak rfl rfl rfl rfl (ci rfl rfl zG (by simp) (by first | rfl | assumption)) ?_ | refine ak rfl rfl rfl rfl (dc rfl rfl zG (by simp) (by rfl)) ?_ | refine ak rfl rfl rfl rfl (dv rfl rfl zG (by simp) (by simp)) ?_ | refine ak rfl rfl rfl rfl (bp rfl rfl zG (by simp) (dw (by assumption) rfl)) ?_ | refine ak rfl rfl rfl rfl (bp rfl rfl zG (by simp) (by assumption)) ?_ | refine ak rfl rfl rfl rfl (d8 rfl rfl zG (by simp) rfl (by assumption) rfl (by decide)) ?_ | refine ak rfl rfl rfl rfl (dq rfl rfl zG (by rfl)) ?_
               refine fm ?_
               refine ii [5] (by kernel_rfl) (by simp) ?_
               refine ig ?_ ?_
               ·try dsimp only [St.put]
                refine mx rfl rfl rfl (az rfl rfl rfl (ug1 p.text q ht) ?_)
                refine ka [(6, none), (7, none), (8, none), (9, none), (10, none), (11, none), (12, none), (13, none), (14, none), (15, none), (16, none), (17, none), (18, none), (19, none)] (fun i => [6, 7, 8, 10, 12, 13, 15, 17, 19].contains i) 18 (rl [20, 18]) (by kernel_rfl) ?_
                first | refine ai rfl rfl rfl rfl (bz rfl rfl (by constructor)) ?_ | refine ai rfl rfl rfl rfl (cj rfl rfl (by constructor)) ?_ | refine ai rfl rfl rfl rfl (dl rfl rfl rfl rfl) ?_ | refine ai rfl rfl rfl rfl (dj rfl rfl rfl rfl) ?_
                refine ai rfl rfl rfl rfl (ar rfl (by constructor)) ?_
                refine sn (fun hs => ?_) (fun hs => ?_)
                ·have w1 : ga p.text q = true := hs
                 obtain ⟨kq, nq, wq, cq, lq, hqe, hq1, hq2, hq3⟩ := ugs w1
                 have hkl := (List.getElem?_eq_some_iff.1 hq1).1
                 have hnl := (List.getElem?_eq_some_iff.1 hq2).1
                 have hcl := (hl3 cq (jh hq1)).2.1
                 have hst := yq (t := p.text) (k := p.text.length) (i := kq) hkl
                 have hsb := s4 ht kq (by omega)
                 have hqc : q.ch = (kq : Int) := by rw [hqe]
                 have hql : q.ln = (nq : Int) := by rw [hqe]
                 first | refine ai rfl rfl rfl rfl (c6 rfl rfl rfl) ?_ | refine ai rfl rfl rfl rfl (cm rfl rfl) ?_
                 try dsimp only [St.put]
                 first | refine ak rfl rfl rfl rfl (bw rfl rfl) ?_ | refine ak rfl rfl rfl rfl (bh rfl rfl (Enc.len _)) ?_ | refine ak rfl rfl rfl rfl (bh rfl rfl rfl) ?_ | refine ak rfl rfl rfl rfl (ci rfl rfl zG (by simp) (by first | rfl | assumption)) ?_ | refine ak rfl rfl rfl rfl (dc rfl rfl zG (by simp) (by rfl)) ?_ | refine ak rfl rfl rfl rfl (dv rfl rfl zG (by simp) (by simp)) ?_ | refine ak rfl rfl rfl rfl (bp rfl rfl zG (by simp) (dw (by assumption) rfl)) ?_ | refine ak rfl rfl rfl rfl (bp rfl rfl zG (by simp) (by assumption)) ?_ | refine ak rfl rfl rfl rfl (d8 rfl rfl zG (by simp) rfl (by assumption) rfl (by decide)) ?_ | refine ak rfl rfl rfl rfl (dq rfl rfl zG (by rfl)) ?_
                 first | refine ai rfl rfl rfl rfl (c6 rfl rfl rfl) ?_ | refine ai rfl rfl rfl rfl (cm rfl rfl) ?_
                 try dsimp only [St.put]
                 first | refine ak rfl rfl rfl rfl (bw rfl rfl) ?_ | refine ak rfl rfl rfl rfl (bh rfl rfl (Enc.len _)) ?_ | refine ak rfl rfl rfl rfl (bh rfl rfl rfl) ?_ | refine ak rfl rfl rfl rfl (ci rfl rfl zG (by simp) (by first | rfl | assumption)) ?_ | refine ak rfl rfl rfl rfl (dc rfl rfl zG (by simp) (by rfl)) ?_ | refine ak rfl rfl rfl rfl (dv rfl rfl zG (by simp) (by simp)) ?_ | refine ak rfl rfl rfl rfl (bp rfl rfl zG (by simp) (dw (by assumption) rfl)) ?_ | refine ak rfl rfl rfl rfl (bp rfl rfl zG (by simp) (by assumption)) ?_ | refine ak rfl rfl rfl rfl (d8 rfl rfl zG (by simp) rfl (by assumption) rfl (by decide)) ?_ | refine ak rfl rfl rfl rfl (dq rfl rfl zG (by rfl)) ?_
                 refine ai rfl rfl rfl rfl (ar rfl (by constructor)) ?_
                 first | refine ai rfl rfl rfl rfl (c6 rfl rfl rfl) ?_ | refine ai rfl rfl rfl rfl (cm rfl rfl) ?_
                 try dsimp only [St.put]
                 first | refine ak rfl rfl rfl rfl (bw rfl rfl) ?_ | refine ak rfl rfl rfl rfl (bh rfl rfl (Enc.len _)) ?_ | refine ak rfl rfl rfl rfl (bh rfl rfl rfl) ?_ | refine ak rfl rfl rfl rfl (ci rfl rfl zG (by simp) (by first | rfl | assumption)) ?_ | refine ak rfl rfl rfl rfl (dc rfl rfl zG (by simp) (by rfl)) ?_ | refine ak rfl rfl rfl rfl (dv rfl rfl zG (by simp) (by simp)) ?_ | refine ak rfl rfl rfl rfl (bp rfl rfl zG (by simp) (dw (by assumption) rfl)) ?_ | refine ak rfl rfl rfl rfl (bp rfl rfl zG (by simp) (by assumption)) ?_ | refine ak rfl rfl rfl rfl (d8 rfl rfl zG (by simp) rfl (by assumption) rfl (by decide)) ?_ | refine ak rfl rfl rfl rfl (dq rfl rfl zG (by rfl)) ?_
                 try dsimp only [St.put]
                 first | refine ai rfl rfl rfl rfl (c5 rfl rfl rfl rfl (c7 (by assumption)) (Enc.len _)) ?_ | refine ai rfl rfl rfl rfl (c5 rfl rfl rfl rfl (by assumption) rfl) ?_ | refine ai rfl rfl rfl rfl (tw rfl rfl rfl (by first | exact ud _ | exact rfl) (by omega)) ?_ | refine ai rfl rfl rfl rfl (c5 rfl rfl rfl (by omega) (c7 (by assumption)) (Enc.len _)) ?_
                 try dsimp only [St.put]
                 first | refine ak rfl rfl rfl rfl (bw rfl rfl) ?_ | refine ak rfl rfl rfl rfl (bh rfl rfl (Enc.len _)) ?_ | refine ak rfl rfl rfl rfl (bh rfl rfl rfl) ?_ | refine ak rfl rfl rfl rfl (ci rfl rfl zG (by simp) (by first | rfl | assumption)) ?_ | refine ak rfl rfl rfl rfl (dc rfl rfl zG (by simp) (by rfl)) ?_ | refine ak rfl rfl rfl rfl (dv rfl rfl zG (by simp) (by simp)) ?_ | refine ak rfl rfl rfl rfl (bp rfl rfl zG (by simp) (dw (by assumption) rfl)) ?_ | refine ak rfl rfl rfl rfl (bp rfl rfl zG (by simp) (by assumption)) ?_ | refine ak rfl rfl rfl rfl (d8 rfl rfl zG (by simp) rfl (by assumption) rfl (by decide)) ?_ | refine ak rfl rfl rfl rfl (dq rfl rfl zG (by rfl)) ?_
                 first | refine ai rfl rfl rfl rfl (c6 rfl rfl rfl) ?_ | refine ai rfl rfl rfl rfl (cm rfl rfl) ?_
                 try dsimp only [St.put]
                 first | refine ak rfl rfl rfl rfl (bw rfl rfl) ?_ | refine ak rfl rfl rfl rfl (bh rfl rfl (Enc.len _)) ?_ | refine ak rfl rfl rfl rfl (bh rfl rfl rfl) ?_ | refine ak rfl rfl rfl rfl (ci rfl rfl zG (by simp) (by first | rfl | assumption)) ?_ | refine ak rfl rfl rfl rfl (dc rfl rfl zG (by simp) (by rfl)) ?_ | refine ak rfl rfl rfl rfl (dv rfl rfl zG (by simp) (by simp)) ?_ | refine ak rfl rfl rfl rfl (bp rfl rfl zG (by simp) (dw (by assumption) rfl)) ?_ | refine ak rfl rfl rfl rfl (bp rfl rfl zG (by simp) (by assumption)) ?_ | refine ak rfl rfl rfl rfl (d8 rfl rfl zG (by simp) rfl (by assumption) rfl (by decide)) ?_ | refine ak rfl rfl rfl rfl (dq rfl rfl zG (by rfl)) ?_
                 first | refine ai rfl rfl rfl rfl (ct rfl rfl rfl (by omega)) ?_ | refine ai rfl rfl rfl rfl (jf rfl rfl rfl) ?_
                 refine fm ?_
                 refine ii [20] (by kernel_rfl) (by simp) ?_
                 refine ig ?_ ?_
                 ·try dsimp only [St.put]
                  refine mx rfl rfl rfl (cy rfl rfl rfl (by decide) (by decide) zR (by decide) ?_)
                  refine ii [21] (by kernel_rfl) (by simp) ?_
                  refine ig ?_ ?_
                  ·try dsimp only [St.put]
                   refine mx rfl rfl rfl (az rfl rfl rfl (ll _ _ [_]) ?_)
                   refine ka [(22, none), (23, none), (24, none), (25, none), (26, none), (27, none), (28, none), (29, none), (30, none), (31, none), (32, none)] (fun i => [22, 23, 24, 25, 26, 27, 28, 29, 30].contains i) 5 (rl [33, 5]) (by kernel_rfl) ?_
                   first | refine ai rfl rfl rfl rfl (bz rfl rfl (by constructor)) ?_ | refine ai rfl rfl rfl rfl (cj rfl rfl (by constructor)) ?_ | refine ai rfl rfl rfl rfl (dl rfl rfl rfl rfl) ?_ | refine ai rfl rfl rfl rfl (dj rfl rfl rfl rfl) ?_
                   refine ai rfl rfl rfl rfl (ar rfl (by constructor)) ?_
                   refine sn (fun hs => ?_) (fun hs => ?_)
                   ·have w2 : i1 p.text x q = true := by
                     rw [fw] at hs
                     unfold i1 ru
                     rw [hqc, Int.toNat_natCast, Int.add_comm]; exact hs
                    refine ai rfl rfl rfl rfl (ar rfl (by constructor)) ?_
                    refine ai rfl rfl rfl rfl (eh rfl rfl rfl) ?_
                    refine ai rfl rfl rfl rfl (ar rfl (by constructor)) ?_
                    refine sn (fun hs => ?_) (fun hs => ?_)
                    ·have w3 : i = 0 := by have := of_decide_eq_true hs; omega
                     refine bx rfl rfl rfl ?_
                     refine bx rfl rfl rfl ?_
                     refine bx rfl rfl rfl ?_
                     refine bx rfl rfl rfl ?_
                     refine bx rfl rfl rfl ?_
                     refine bx rfl rfl rfl ?_
                     refine fm ?_
                     refine ii [33] (by kernel_rfl) (by simp) ?_
                     refine ig ?_ ?_
                     ·refine k8 rfl rfl rfl ?_
                      refine ka [(34, none), (35, none), (36, none), (37, none)] (fun i => [34, 35, 36, 37].contains i) 0 (rl [38]) (by kernel_rfl) ?_
                      refine bx rfl rfl rfl ?_
                      first | refine ai rfl rfl rfl rfl (bz rfl rfl (by constructor)) ?_ | refine ai rfl rfl rfl rfl (cj rfl rfl (by constructor)) ?_ | refine ai rfl rfl rfl rfl (dl rfl rfl rfl rfl) ?_ | refine ai rfl rfl rfl rfl (dj rfl rfl rfl rfl) ?_
                      first | refine ai rfl rfl rfl rfl (bz rfl rfl (by constructor)) ?_ | refine ai rfl rfl rfl rfl (cj rfl rfl (by constructor)) ?_ | refine ai rfl rfl rfl rfl (dl rfl rfl rfl rfl) ?_ | refine ai rfl rfl rfl rfl (dj rfl rfl rfl rfl) ?_
                      refine ai rfl rfl rfl rfl (bq rfl (by constructor)) ?_
                      refine fm ?_
                      dsimp only [St.put]
                      refine o8 (by kernel_rfl) ?_
                      refine hK50 _ ?_
                      refine bj ?_
                      first | refine aa rfl (ct rfl rfl rfl (by omega)) ?_ | refine aa rfl (jf rfl rfl rfl) ?_
                      refine aa rfl (ar rfl (by constructor)) ?_
                      refine bf ?_
                      dsimp only [St.put]
                      refine ⟨i + 1, by omega, by omega, ?_⟩
                      try dsimp only
                      first
                      | (rw [show (d && dm p.text x (cw (decide (k = 1)) x) (i + 1)) = false by rw [gh, ← Bool.and_assoc, show (d && dm p.text x (cw (decide (k = 1)) x) i) = false from w0, Bool.false_and]]
                         exact ⟨⟨rfl, rfl⟩, zF, zB, zN, zX⟩)
                      | (rw [show (d && dm p.text x (cw (decide (k = 1)) x) (i + 1)) = false by rw [gh, g7 hq, show ga p.text q = false from w1]; simp]
                         exact ⟨⟨rfl, rfl⟩, zF, zB, zN, zX⟩)
                      | (rw [show (d && dm p.text x (cw (decide (k = 1)) x) (i + 1)) = false by rw [gh, g7 hq, show i1 p.text x q = false from w2]; simp]
                         exact ⟨⟨rfl, rfl⟩, zF, zB, zN, zX⟩)
                      | (rw [show (d && dm p.text x (cw (decide (k = 1)) x) (i + 1)) = true by rw [gh, ← Bool.and_assoc, show (d && dm p.text x (cw (decide (k = 1)) x) i) = true from w0, g7 hq, w1, w2, decide_eq_true (show i = 0 from w3)]; rfl]
                         exact ⟨⟨rfl, rfl⟩, zF, zB, zN, zX⟩)
                      | (rw [show (d && dm p.text x (cw (decide (k = 1)) x) (i + 1)) = decide (kb a q < 0) by rw [gh, ← Bool.and_assoc, show (d && dm p.text x (cw (decide (k = 1)) x) i) = true from w0, g7 hq, w1, w2, decide_eq_false (show ¬ i = 0 from w3), ha]; rfl]
                         exact ⟨⟨rfl, rfl⟩, zF, zB, zN, zX⟩)
                     exact ie
                    ·have w3 : ¬ i = 0 := by have := of_decide_eq_false hs; omega
                     obtain ⟨a, ha⟩ : ∃ a, (cw (decide (k = 1)) x)[i - 1]? = some a := fl (by omega)
                     refine ai rfl rfl rfl rfl (ar rfl (by constructor)) ?_
                     refine ai rfl rfl rfl rfl (ar rfl (by constructor)) ?_
                     first | refine ai rfl rfl rfl rfl (je rfl rfl rfl (by omega)) ?_ | refine ai rfl rfl rfl rfl (uao rfl rfl rfl) ?_
                     try dsimp only [St.put]
                     refine ai rfl rfl rfl rfl (c5 (k := i - 1) rfl rfl rfl (by omega) (c7 ha) (Enc.len _)) ?_
                     try dsimp only [St.put]
                     first | refine ak rfl rfl rfl rfl (bw rfl rfl) ?_ | refine ak rfl rfl rfl rfl (bh rfl rfl (Enc.len _)) ?_ | refine ak rfl rfl rfl rfl (bh rfl rfl rfl) ?_ | refine ak rfl rfl rfl rfl (ci rfl rfl zG (by simp) (by first | rfl | assumption)) ?_ | refine ak rfl rfl rfl rfl (dc rfl rfl zG (by simp) (by rfl)) ?_ | refine ak rfl rfl rfl rfl (dv rfl rfl zG (by simp) (by simp)) ?_ | refine ak rfl rfl rfl rfl (bp rfl rfl zG (by simp) (dw (by assumption) rfl)) ?_ | refine ak rfl rfl rfl rfl (bp rfl rfl zG (by simp) (by assumption)) ?_ | refine ak rfl rfl rfl rfl (d8 rfl rfl zG (by simp) rfl (by assumption) rfl (by decide)) ?_ | refine ak rfl rfl rfl rfl (dq rfl rfl zG (by rfl)) ?_
                     try dsimp only [St.put]
                     first | refine ak rfl rfl rfl rfl (bw rfl rfl) ?_ | refine ak rfl rfl rfl rfl (bh rfl rfl (Enc.len _)) ?_ | refine ak rfl rfl rfl rfl (bh rfl rfl rfl) ?_ | refine ak rfl rfl rfl rfl (ci rfl rfl zG (by simp) (by first | rfl | assumption)) ?_ | refine ak rfl rfl rfl rfl (dc rfl rfl zG (by simp) (by rfl)) ?_ | refine ak rfl rfl rfl rfl (dv rfl rfl zG (by simp) (by simp)) ?_ | refine ak rfl rfl rfl rfl (bp rfl rfl zG (by simp) (dw (by assumption) rfl)) ?_ | refine ak rfl rfl rfl rfl (bp rfl rfl zG (by simp) (by assumption)) ?_ | refine ak rfl rfl rfl rfl (d8 rfl rfl zG (by simp) rfl (by assumption) rfl (by decide)) ?_ | refine ak rfl rfl rfl rfl (dq rfl rfl zG (by rfl)) ?_
                     refine fm ?_
                     refine ii [33] (by kernel_rfl) (by simp) ?_
                     refine ig ?_ ?_
                     ·try dsimp only [St.put]
                      refine mx rfl rfl rfl (az rfl rfl rfl (wc a q) ?_)
                      refine ka [(34, none), (35, none), (36, none), (37, none)] (fun i => [34, 35, 36, 37].contains i) 0 (rl [38]) (by kernel_rfl) ?_
                      refine ai rfl rfl rfl rfl (dp rfl rfl rfl) ?_
                      first | refine ai rfl rfl rfl rfl (bz rfl rfl (by constructor)) ?_ | refine ai rfl rfl rfl rfl (cj rfl rfl (by constructor)) ?_ | refine ai rfl rfl rfl rfl (dl rfl rfl rfl rfl) ?_ | refine ai rfl rfl rfl rfl (dj rfl rfl rfl rfl) ?_
                      first | refine ai rfl rfl rfl rfl (bz rfl rfl (by constructor)) ?_ | refine ai rfl rfl rfl rfl (cj rfl rfl (by constructor)) ?_ | refine ai rfl rfl rfl rfl (dl rfl rfl rfl rfl) ?_ | refine ai rfl rfl rfl rfl (dj rfl rfl rfl rfl) ?_
                      refine ai rfl rfl rfl rfl (bq rfl (by constructor)) ?_
                      refine fm ?_
                      dsimp only [St.put]
                      refine o8 (by kernel_rfl) ?_
                      refine hK50 _ ?_
                      refine bj ?_
                      first | refine aa rfl (ct rfl rfl rfl (by omega)) ?_ | refine aa rfl (jf rfl rfl rfl) ?_
                      refine aa rfl (ar rfl (by constructor)) ?_
                      refine bf ?_
                      dsimp only [St.put]
                      refine ⟨i + 1, by omega, by omega, ?_⟩
                      try dsimp only
                      first
                      | (rw [show (d && dm p.text x (cw (decide (k = 1)) x) (i + 1)) = false by rw [gh, ← Bool.and_assoc, show (d && dm p.text x (cw (decide (k = 1)) x) i) = false from w0, Bool.false_and]]
                         exact ⟨⟨rfl, rfl⟩, zF, zB, zN, zX⟩)
                      | (rw [show (d && dm p.text x (cw (decide (k = 1)) x) (i + 1)) = false by rw [gh, g7 hq, show ga p.text q = false from w1]; simp]
                         exact ⟨⟨rfl, rfl⟩, zF, zB, zN, zX⟩)
                      | (rw [show (d && dm p.text x (cw (decide (k = 1)) x) (i + 1)) = false by rw [gh, g7 hq, show i1 p.text x q = false from w2]; simp]
                         exact ⟨⟨rfl, rfl⟩, zF, zB, zN, zX⟩)
                      | (rw [show (d && dm p.text x (cw (decide (k = 1)) x) (i + 1)) = true by rw [gh, ← Bool.and_assoc, show (d && dm p.text x (cw (decide (k = 1)) x) i) = true from w0, g7 hq, w1, w2, decide_eq_true (show i = 0 from w3)]; rfl]
                         exact ⟨⟨rfl, rfl⟩, zF, zB, zN, zX⟩)
                      | (rw [show (d && dm p.text x (cw (decide (k = 1)) x) (i + 1)) = decide (kb a q < 0) by rw [gh, ← Bool.and_assoc, show (d && dm p.text x (cw (decide (k = 1)) x) i) = true from w0, g7 hq, w1, w2, decide_eq_false (show ¬ i = 0 from w3), ha]; rfl]
                         exact ⟨⟨rfl, rfl⟩, zF, zB, zN, zX⟩)
                     exact ie
                   ·have w2 : i1 p.text x q = false := by
                     rw [fw] at hs
                     unfold i1 ru
                     rw [hqc, Int.toNat_natCast, Int.add_comm]; exact hs
                    refine bx rfl rfl rfl ?_
                    refine bx rfl rfl rfl ?_
                    refine bx rfl rfl rfl ?_
                    refine bx rfl rfl rfl ?_
                    refine bx rfl rfl rfl ?_
                    refine bx rfl rfl rfl ?_
                    refine bx rfl rfl rfl ?_
                    refine bx rfl rfl rfl ?_
                    refine bx rfl rfl rfl ?_
                    refine fm ?_
                    refine ii [33] (by kernel_rfl) (by simp) ?_
                    refine ig ?_ ?_
                    ·refine k8 rfl rfl rfl ?_
                     refine ka [(34, none), (35, none), (36, none), (37, none)] (fun i => [34, 35, 36, 37].contains i) 0 (rl [38]) (by kernel_rfl) ?_
                     refine bx rfl rfl rfl ?_
                     refine bx rfl rfl rfl ?_
                     first | refine ai rfl rfl rfl rfl (bz rfl rfl (by constructor)) ?_ | refine ai rfl rfl rfl rfl (cj rfl rfl (by constructor)) ?_ | refine ai rfl rfl rfl rfl (dl rfl rfl rfl rfl) ?_ | refine ai rfl rfl rfl rfl (dj rfl rfl rfl rfl) ?_
                     refine ai rfl rfl rfl rfl (bq rfl (by constructor)) ?_
                     refine fm ?_
                     dsimp only [St.put]
                     refine o8 (by kernel_rfl) ?_
                     refine hK50 _ ?_
                     refine bj ?_
                     first | refine aa rfl (ct rfl rfl rfl (by omega)) ?_ | refine aa rfl (jf rfl rfl rfl) ?_
                     refine aa rfl (ar rfl (by constructor)) ?_
                     refine bf ?_
                     dsimp only [St.put]
                     refine ⟨i + 1, by omega, by omega, ?_⟩
                     try dsimp only
                     first
                     | (rw [show (d && dm p.text x (cw (decide (k = 1)) x) (i + 1)) = false by rw [gh, ← Bool.and_assoc, show (d && dm p.text x (cw (decide (k = 1)) x) i) = false from w0, Bool.false_and]]
                        exact ⟨⟨rfl, rfl⟩, zF, zB, zN, zX⟩)
                     | (rw [show (d && dm p.text x (cw (decide (k = 1)) x) (i + 1)) = false by rw [gh, g7 hq, show ga p.text q = false from w1]; simp]
                        exact ⟨⟨rfl, rfl⟩, zF, zB, zN, zX⟩)
                     | (rw [show (d && dm p.text x (cw (decide (k = 1)) x) (i + 1)) = false by rw [gh, g7 hq, show i1 p.text x q = false from w2]; simp]
                        exact ⟨⟨rfl, rfl⟩, zF, zB, zN, zX⟩)
                     | (rw [show (d && dm p.text x (cw (decide (k = 1)) x) (i + 1)) = true by rw [gh, ← Bool.and_assoc, show (d && dm p.text x (cw (decide (k = 1)) x) i) = true from w0, g7 hq, w1, w2, decide_eq_true (show i = 0 from w3)]; rfl]
                        exact ⟨⟨rfl, rfl⟩, zF, zB, zN, zX⟩)
                     | (rw [show (d && dm p.text x (cw (decide (k = 1)) x) (i + 1)) = decide (kb a q < 0) by rw [gh, ← Bool.and_assoc, show (d && dm p.text x (cw (decide (k = 1)) x) i) = true from w0, g7 hq, w1, w2, decide_eq_false (show ¬ i = 0 from w3), ha]; rfl]
                        exact ⟨⟨rfl, rfl⟩, zF, zB, zN, zX⟩)
                    exact ie
                  exact ie
                 exact ie
                ·have w1 : ga p.text q = false := hs
                 refine bx rfl rfl rfl ?_
                 refine bx rfl rfl rfl ?_
                 refine bx rfl rfl rfl ?_
                 refine bx rfl rfl rfl ?_
                 refine bx rfl rfl rfl ?_
                 refine bx rfl rfl rfl ?_
                 refine bx rfl rfl rfl ?_
                 refine bx rfl rfl rfl ?_
                 refine bx rfl rfl rfl ?_
                 refine bx rfl rfl rfl ?_
                 refine bx rfl rfl rfl ?_
                 refine bx rfl rfl rfl ?_
                 refine fm ?_
                 refine ii [20] (by kernel_rfl) (by simp) ?_
                 refine ig ?_ ?_
                 ·refine k8 rfl rfl rfl ?_
                  refine ii [21] (by kernel_rfl) (by simp) ?_
                  refine ig ?_ ?_
                  ·refine k8 rfl rfl rfl ?_
                   refine ka [(22, none), (23, none), (24, none), (25, none), (26, none), (27, none), (28, none), (29, none), (30, none), (31, none), (32, none)] (fun i => [22, 23, 24, 25, 26, 27, 28, 29, 30].contains i) 5 (rl [33, 5]) (by kernel_rfl) ?_
                   first | refine ai rfl rfl rfl rfl (bz rfl rfl (by constructor)) ?_ | refine ai rfl rfl rfl rfl (cj rfl rfl (by constructor)) ?_ | refine ai rfl rfl rfl rfl (dl rfl rfl rfl rfl) ?_ | refine ai rfl rfl rfl rfl (dj rfl rfl rfl rfl) ?_
                   refine ai rfl rfl rfl rfl (ar rfl (by constructor)) ?_
                   refine bx rfl rfl rfl ?_
                   refine bx rfl rfl rfl ?_
                   refine bx rfl rfl rfl ?_
                   refine bx rfl rfl rfl ?_
                   refine bx rfl rfl rfl ?_
                   refine bx rfl rfl rfl ?_
                   refine bx rfl rfl rfl ?_
                   refine bx rfl rfl rfl ?_
                   refine bx rfl rfl rfl ?_
                   refine fm ?_
                   refine ii [33] (by kernel_rfl) (by simp) ?_
                   refine ig ?_ ?_
                   ·refine k8 rfl rfl rfl ?_
                    refine ka [(34, none), (35, none), (36, none), (37, none)] (fun i => [34, 35, 36, 37].contains i) 0 (rl [38]) (by kernel_rfl) ?_
                    refine bx rfl rfl rfl ?_
                    refine bx rfl rfl rfl ?_
                    first | refine ai rfl rfl rfl rfl (bz rfl rfl (by constructor)) ?_ | refine ai rfl rfl rfl rfl (cj rfl rfl (by constructor)) ?_ | refine ai rfl rfl rfl rfl (dl rfl rfl rfl rfl) ?_ | refine ai rfl rfl rfl rfl (dj rfl rfl rfl rfl) ?_
                    refine ai rfl rfl rfl rfl (bq rfl (by constructor)) ?_
                    refine fm ?_
                    dsimp only [St.put]
                    refine o8 (by kernel_rfl) ?_
                    refine hK50 _ ?_
                    refine bj ?_
                    first | refine aa rfl (ct rfl rfl rfl (by omega)) ?_ | refine aa rfl (jf rfl rfl rfl) ?_
                    refine aa rfl (ar rfl (by constructor)) ?_
                    refine bf ?_
                    dsimp only [St.put]
                    refine ⟨i + 1, by omega, by omega, ?_⟩
                    try dsimp only
                    first
                    | (rw [show (d && dm p.text x (cw (decide (k = 1)) x) (i + 1)) = false by rw [gh, ← Bool.and_assoc, show (d && dm p.text x (cw (decide (k = 1)) x) i) = false from w0, Bool.false_and]]
                       exact ⟨⟨rfl, rfl⟩, zF, zB, zN, zX⟩)
                    | (rw [show (d && dm p.text x (cw (decide (k = 1)) x) (i + 1)) = false by rw [gh, g7 hq, show ga p.text q = false from w1]; simp]
                       exact ⟨⟨rfl, rfl⟩, zF, zB, zN, zX⟩)
                    | (rw [show (d && dm p.text x (cw (decide (k = 1)) x) (i + 1)) = false by rw [gh, g7 hq, show i1 p.text x q = false from w2]; simp]
                       exact ⟨⟨rfl, rfl⟩, zF, zB, zN, zX⟩)
                    | (rw [show (d && dm p.text x (cw (decide (k = 1)) x) (i + 1)) = true by rw [gh, ← Bool.and_assoc, show (d && dm p.text x (cw (decide (k = 1)) x) i) = true from w0, g7 hq, w1, w2, decide_eq_true (show i = 0 from w3)]; rfl]
                       exact ⟨⟨rfl, rfl⟩, zF, zB, zN, zX⟩)
                    | (rw [show (d && dm p.text x (cw (decide (k = 1)) x) (i + 1)) = decide (kb a q < 0) by rw [gh, ← Bool.and_assoc, show (d && dm p.text x (cw (decide (k = 1)) x) i) = true from w0, g7 hq, w1, w2, decide_eq_false (show ¬ i = 0 from w3), ha]; rfl]
                       exact ⟨⟨rfl, rfl⟩, zF, zB, zN, zX⟩)
                   exact ie
                  exact ie
                 exact ie
               exact ie
              ·have w0 : (d && dm p.text x (cw (decide (k = 1)) x) i) = false := hs
               refine bx rfl rfl rfl ?_
               refine bx rfl rfl rfl ?_
               refine bx rfl rfl rfl ?_
               refine fm ?_
               refine ii [5] (by kernel_rfl) (by simp) ?_
               refine ig ?_ ?_
               ·refine k8 rfl rfl rfl ?_
                refine ka [(6, none), (7, none), (8, none), (9, none), (10, none), (11, none), (12, none), (13, none), (14, none), (15, none), (16, none), (17, none), (18, none), (19, none)] (fun i => [6, 7, 8, 10, 12, 13, 15, 17, 19].contains i) 18 (rl [20, 18]) (by kernel_rfl) ?_
                first | refine ai rfl rfl rfl rfl (bz rfl rfl (by constructor)) ?_ | refine ai rfl rfl rfl rfl (cj rfl rfl (by constructor)) ?_ | refine ai rfl rfl rfl rfl (dl rfl rfl rfl rfl) ?_ | refine ai rfl rfl rfl rfl (dj rfl rfl rfl rfl) ?_
                refine ai rfl rfl rfl rfl (ar rfl (by constructor)) ?_
                refine bx rfl rfl rfl ?_
                refine bx rfl rfl rfl ?_
                refine bx rfl rfl rfl ?_
                refine bx rfl rfl rfl ?_
                refine bx rfl rfl rfl ?_
                refine bx rfl rfl rfl ?_
                refine bx rfl rfl rfl ?_
                refine bx rfl rfl rfl ?_
                refine bx rfl rfl rfl ?_
                refine bx rfl rfl rfl ?_
                refine bx rfl rfl rfl ?_
                refine bx rfl rfl rfl ?_
                refine fm ?_
                refine ii [20] (by kernel_rfl) (by simp) ?_
                refine ig ?_ ?_
                ·refine k8 rfl rfl rfl ?_
                 refine ii [21] (by kernel_rfl) (by simp) ?_
                 refine ig ?_ ?_
                 ·refine k8 rfl rfl rfl ?_
                  refine ka [(22, none), (23, none), (24, none), (25, none), (26, none), (27, none), (28, none), (29, none), (30, none), (31, none), (32, none)] (fun i => [22, 23, 24, 25, 26, 27, 28, 29, 30].contains i) 5 (rl [33, 5]) (by kernel_rfl) ?_
                  first | refine ai rfl rfl rfl rfl (bz rfl rfl (by constructor)) ?_ | refine ai rfl rfl rfl rfl (cj rfl rfl (by constructor)) ?_ | refine ai rfl rfl rfl rfl (dl rfl rfl rfl rfl) ?_ | refine ai rfl rfl rfl rfl (dj rfl rfl rfl rfl) ?_
                  refine ai rfl rfl rfl rfl (ar rfl (by constructor)) ?_
                  refine bx rfl rfl rfl ?_
                  refine bx rfl rfl rfl ?_
                  refine bx rfl rfl rfl ?_
                  refine bx rfl rfl rfl ?_
                  refine bx rfl rfl rfl ?_
                  refine bx rfl rfl rfl ?_
                  refine bx rfl rfl rfl ?_
                  refine bx rfl rfl rfl ?_
                  refine bx rfl rfl rfl ?_
                  refine fm ?_
                  refine ii [33] (by kernel_rfl) (by simp) ?_
                  refine ig ?_ ?_
                  ·refine k8 rfl rfl rfl ?_
                   refine ka [(34, none), (35, none), (36, none), (37, none)] (fun i => [34, 35, 36, 37].contains i) 0 (rl [38]) (by kernel_rfl) ?_
                   refine bx rfl rfl rfl ?_
                   refine bx rfl rfl rfl ?_
                   first | refine ai rfl rfl rfl rfl (bz rfl rfl (by constructor)) ?_ | refine ai rfl rfl rfl rfl (cj rfl rfl (by constructor)) ?_ | refine ai rfl rfl rfl rfl (dl rfl rfl rfl rfl) ?_ | refine ai rfl rfl rfl rfl (dj rfl rfl rfl rfl) ?_
                   refine ai rfl rfl rfl rfl (bq rfl (by constructor)) ?_
                   refine fm ?_
                   dsimp only [St.put]
                   refine o8 (by kernel_rfl) ?_
                   refine hK50 _ ?_
                   refine bj ?_
                   first | refine aa rfl (ct rfl rfl rfl (by omega)) ?_ | refine aa rfl (jf rfl rfl rfl) ?_
                   refine aa rfl (ar rfl (by constructor)) ?_
                   refine bf ?_
                   dsimp only [St.put]
                   refine ⟨i + 1, by omega, by omega, ?_⟩
                   try dsimp only
                   first
                   | (rw [show (d && dm p.text x (cw (decide (k = 1)) x) (i + 1)) = false by rw [gh, ← Bool.and_assoc, show (d && dm p.text x (cw (decide (k = 1)) x) i) = false from w0, Bool.false_and]]
                      exact ⟨⟨rfl, rfl⟩, zF, zB, zN, zX⟩)
                   | (rw [show (d && dm p.text x (cw (decide (k = 1)) x) (i + 1)) = false by rw [gh, g7 hq, show ga p.text q = false from w1]; simp]
                      exact ⟨⟨rfl, rfl⟩, zF, zB, zN, zX⟩)
                   | (rw [show (d && dm p.text x (cw (decide (k = 1)) x) (i + 1)) = false by rw [gh, g7 hq, show i1 p.text x q = false from w2]; simp]
                      exact ⟨⟨rfl, rfl⟩, zF, zB, zN, zX⟩)
                   | (rw [show (d && dm p.text x (cw (decide (k = 1)) x) (i + 1)) = true by rw [gh, ← Bool.and_assoc, show (d && dm p.text x (cw (decide (k = 1)) x) i) = true from w0, g7 hq, w1, w2, decide_eq_true (show i = 0 from w3)]; rfl]
                      exact ⟨⟨rfl, rfl⟩, zF, zB, zN, zX⟩)
                   | (rw [show (d && dm p.text x (cw (decide (k = 1)) x) (i + 1)) = decide (kb a q < 0) by rw [gh, ← Bool.and_assoc, show (d && dm p.text x (cw (decide (k = 1)) x) i) = true from w0, g7 hq, w1, w2, decide_eq_false (show ¬ i = 0 from w3), ha]; rfl]
                      exact ⟨⟨rfl, rfl⟩, zF, zB, zN, zX⟩)
                  exact ie
                 exact ie
                exact ie
               exact ie
             ·replace hc := of_decide_eq_false hc
              obtain rfl : i = (cw (decide (k = 1)) x).length := by omega
              refine el ?_
              refine hK43 _ ?_
              refine bj ?_
              first | refine aa rfl (ct rfl rfl rfl (by omega)) ?_ | refine aa rfl (jf rfl rfl rfl) ?_
              refine aa rfl (ar rfl (by constructor)) ?_
              refine bf ?_
              dsimp only [St.put]
              rw [show (d && dm p.text x (cw (decide (k = 1)) x) (cw (decide (k = 1)) x).length) = m6 p (ip p.pages j) x (k + 1) by rw [hd]; simp only [m6, qz, j6, Bool.and_assoc]]
              exact ⟨k + 1, by omega, by omega, ⟨⟨rfl, rfl⟩, zF, zB, zN, zX⟩⟩
         ·replace hc := of_decide_eq_false hc
          obtain rfl : k = 2 := by omega
          rw [ufk]
          refine el ?_
          refine hK39 _ ?_
          refine br fun K52 hK52 => ?_
          refine br fun K53 hK53 => ?_
          refine bj ?_
          refine aa rfl (ar rfl (by constructor)) ?_
          refine aa rfl (ge rfl rfl) ?_
          refine bf ?_
          dsimp only [St.put]
          refine hK53 _ ?_
          refine bc rfl (fun hc => ?_) (fun hc => ?_)
          ·have hpg : lk p (ip p.pages j) x = false := by simpa using hc
           have hE : ck p = 90 := ur ht (ugq hx hpg)
           rw [hpg]
           refine el ?_
           refine hK32 _ ?_
           refine br fun K54 hK54 => ?_
           refine br fun K55 hK55 => ?_
           refine bj ?_
           refine aa rfl (ar rfl (by constructor)) ?_
           refine aa rfl (ge rfl rfl) ?_
           refine bf ?_
           dsimp only [St.put]
           refine hK55 _ ?_
           refine bc rfl (fun _ => ?_) (fun h => by cases h)
           refine br fun K56 hK56 => ?_
           refine bj ?_
           refine aa rfl (bq rfl (by constructor)) ?_
           refine aa rfl (bq rfl (by constructor)) ?_
           refine bf ?_
           dsimp only [St.put]
           refine hK56 _ ?_
           refine ay ?_
           refine jj rfl (by constructor) (by constructor) zN zS ?_ ?_
           ·rw [ro (by rw [hE]; decide)]
           ·rw [hE]
          ·have hpg : lk p (ip p.pages j) x = true := by simpa using hc
           have hpo := pageB_true.1 hpg
           rw [hpg]
           refine bi ?_
           refine hK52 _ ?_
           refine br fun K57 hK57 => ?_
           refine bj ?_
           first | refine aa rfl (c6 rfl rfl rfl) ?_ | refine aa rfl (cm rfl rfl) ?_
           try dsimp only [St.put]
           first | refine ae rfl (bw rfl rfl) ?_ | refine ae rfl (bh rfl rfl (Enc.len _)) ?_ | refine ae rfl (bh rfl rfl rfl) ?_ | refine ae rfl (ci rfl rfl zG trivial (by first | rfl | assumption)) ?_ | refine ae rfl (dc rfl rfl zG trivial (by rfl)) ?_ | refine ae rfl (dv rfl rfl zG trivial (by simp)) ?_ | refine ae rfl (bp rfl rfl zG trivial (dw (by assumption) rfl)) ?_ | refine ae rfl (bp rfl rfl zG trivial (by assumption)) ?_ | refine ae rfl (d8 rfl rfl zG trivial rfl (by assumption) rfl (by decide)) ?_ | refine ae rfl (dq rfl rfl zG (by rfl)) ?_
           refine aa rfl (bq rfl (by constructor)) ?_
           refine bf ?_
           dsimp only [St.put]
           refine hK57 _ ?_
           refine bj ?_
           refine aa rfl (ar rfl (by constructor)) ?_
           try dsimp only [St.put]
           first | refine ae rfl (bw rfl rfl) ?_ | refine ae rfl (bh rfl rfl (Enc.len _)) ?_ | refine ae rfl (bh rfl rfl rfl) ?_ | refine ae rfl (ci rfl rfl zG trivial (by first | rfl | assumption)) ?_ | refine ae rfl (dc rfl rfl zG trivial (by rfl)) ?_ | refine ae rfl (dv rfl rfl zG trivial (by simp)) ?_ | refine ae rfl (bp rfl rfl zG trivial (dw (by assumption) rfl)) ?_ | refine ae rfl (bp rfl rfl zG trivial (by assumption)) ?_ | refine ae rfl (d8 rfl rfl zG trivial rfl (by assumption) rfl (by decide)) ?_ | refine ae rfl (dq rfl rfl zG (by rfl)) ?_
           refine aa rfl (ar rfl (by constructor)) ?_
           try dsimp only [St.put]
           refine ab rfl (oy rfl rfl rfl (ull p (ip p.pages j) x ((p.pages.take j).map fun x => (fb p.text x : Int)) ((p.pages.take j).map (ed p.text)) ((p.pages.take j).map (dn p.text)) (nx + 1) (nx + 1 + 1) (nx + 1 + 1 + 1) (nx + 1 + 1 + 1 + 1) (j + j + j) ht hpo (by rw [List.length_map, List.length_take]; omega) (by rw [List.length_map, List.length_take]; omega) (by rw [List.length_map, List.length_take]; omega) _ _ (by dsimp only [St.put]; omega) (by dsimp only [St.put]; omega) (by dsimp only [St.put]; omega) (by dsimp only [St.put]; omega) (by omega) (by omega) (by omega) (by omega) (by omega) (by omega) zG zG zG zG) ?_)
           refine bf ?_
           dsimp only [St.put]
           refine hK36 _ ?_
           refine bj ?_
           first | refine aa rfl (ct rfl rfl rfl (by omega)) ?_ | refine aa rfl (jf rfl rfl rfl) ?_
           refine aa rfl (ar rfl (by constructor)) ?_
           refine bf ?_
           dsimp only [St.put]
           rw [show j + j + j + 1 + 1 + 1 = (j + 1) + (j + 1) + (j + 1) by omega, ← pt (f := fun x => (fb p.text x : Int)) hx, ← pt (f := ed p.text) hx, ← pt (f := dn p.text) hx, ← uiv hx]
           exact ⟨j + 1, by omega, ⟨by omega, by rw [ugw, hK.2, zp hx, hpg]; rfl⟩, ⟨⟨rfl, rfl⟩, zF, zB, zN, zX⟩⟩
      ·replace hc := of_decide_eq_false hc
       obtain rfl : j = p.pages.length := by omega
       rw [List.take_length]
       have hE : ck p = 0 := ukd ht (by unfold jd; rw [hRB, decide_eq_true hnp, hK.2]; rfl)
       refine el ?_
       refine hK32 _ ?_
       refine br fun K58 hK58 => ?_
       refine br fun K59 hK59 => ?_
       refine bj ?_
       refine aa rfl (ar rfl (by constructor)) ?_
       refine aa rfl (ge rfl rfl) ?_
       refine bf ?_
       dsimp only [St.put]
       refine hK59 _ ?_
       refine bc rfl (fun h => by cases h) (fun _ => ?_)
       refine bi ?_
       refine hK58 _ ?_
       refine br fun K60 hK60 => ?_
       refine qh (nx + 1) _ [lst p.text, lst p.firsts, lst p.seconds, lst p.pages, lst (p.pages.map fun x => (fb p.text x : Int)), lst (p.pages.map (ed p.text)), lst (p.pages.map (dn p.text))] zG zW ?_
       refine fj (i := 12) rfl zG (by simp) ?_
       dsimp only
       refine bj ?_
       refine aa rfl (ar rfl (by constructor)) ?_
       refine aa rfl (bq rfl (by constructor)) ?_
       refine aa rfl (bq rfl (by constructor)) ?_
       refine bf ?_
       dsimp only [St.put]
       refine hK60 _ ?_
       refine ay ?_
       refine jj rfl (by constructor) (by constructor) zN zS ?_ ?_
       ·rw [tn hE]
       ·rw [hE]
end Go.Proofs.YtgffhbbcpgdjjaaDoor
namespace Go.AB
open Go Go.RowKit

theorem EvR.trans {E1 E2 E3 : Env} {w1 w2 w3 : World} (h : EvR E1 w1 E2 w2) (k : EvR E2 w2 E3 w3) : EvR E1 w1 E3 w3 :=
 ⟨k.B.trans h.B, fun b => Nat.le_trans (h.L b) (k.L b), fun b i hi => (k.cell b i (Nat.lt_of_lt_of_le hi (h.L b))).trans (h.cell b i hi), Nat.le_trans h.nx k.nx, fun n hn v3 x3 y3 h3 => by
  obtain ⟨v2, x2, y2, h2, q1, q2⟩ := k.T n (Nat.lt_of_lt_of_le hn h.nx) _ _ _ h3
  obtain ⟨v1, x1, y1, h1, q3, q4⟩ := h.T n hn _ _ _ h2
  exact ⟨v1, x1, y1, h1, Nat.le_trans q3 q1, fun e => (q4 (by omega)).trans (q2 (by omega))⟩⟩
theorem EvR.drop {E E' : Env} {w w' : World} (h : EvR E w E' w') {m : Nat} (hm : E.nx ≤ m) : EvR E w (E'.drop m) w' :=
 ⟨h.B, h.L, h.cell, hm, fun n hn v x y ht => h.T n hn v x y (by
  simp only [Env.drop] at ht
  split at ht
  ·exact ht
  ·cases ht)⟩
theorem EvR.same {E : Env} {w w' : World} (hc : ∀ b i, i < E.L b → w'.cell? ⟨b, i, none⟩ = w.cell? ⟨b, i, none⟩) : EvR E w E w' :=
 ⟨rfl, fun _ => Nat.le_refl _, hc, Nat.le_refl _, fun _ _ v x y ht => ⟨v, x, y, ht, Nat.le_refl _, fun _ => rfl⟩⟩

/-- An iterator at work: what is owned when so many things have come; how many there are; what they are. -/
structure FC where
 G : Nat → Nat → Option GObj
 nx : Nat
 J : Nat → Env → World → Prop
 N : Nat
 l : Nat
 cl : Nat → List C
def FC.st (I : FC) (st : St) (k : Nat) : St := { st with G := I.G k, nx := I.nx, df := 0 }
structure FC.Ok (P : Program) (I : FC) : Prop where
 sim : ∀ {k E W}, I.J k E W → SimG E W (I.G k) I.nx
 F : ∀ {k E W}, I.J k E W → E.F ≤ W.heap.size
 ev : ∀ {k E W E' W'}, I.J k E W → Ev E W E' W' → SimG E' W' (I.G k) I.nx → I.J k E' W'
 hY : ∀ {k E W vs}, I.J k E W → k < I.N → Rs E W (I.cl k) vs → YieldAt (fen none) 1 P I.l vs.toArray W fun e W' => e = .returned (.bool true) ∧ ∃ E', EvR E W E' W' ∧ I.J (k + 1) E' W'
/-- The contract of an iterator's value, where a fact is known by a name. -/
def uz (nF : Nat) (F : GObj) (P : Program) (gf : Nat) (caps : List C) (N : Nat) (cl : Nat → List C) : Prop :=
 ∀ (I : FC), I.N = N → I.cl = cl → I.Ok P → (∀ k, I.G k nF = some F) → nF < I.nx → ∀ (E : Env) (w : World) (lb : List Value), I.J 0 E w → Rs E w caps lb →
  CallsIn (fen none) 2 P gf (#[.func (.yield I.l) #[] #[]] ++ lb.toArray) w fun e W' => (∃ v, e = .returned v) ∧ ∃ E', I.J N E' W'

section
variable (P : Program) (I : FC)
def FW (c : Code) (Q : Exit → St → Nat → Prop) (st : St) (k : Nat) : Prop :=
 ∀ E W a, I.J k E W → Sim E W (I.st st k) a → cwp none P c (fun e a' W' => ∃ E' st' k', I.J k' E' W' ∧ Sim E' W' (I.st st' k') a' ∧ Q e st' k') a W
def udx (K : St → Nat → Prop) (Q : Exit → St → Nat → Prop) : Exit → St → Nat → Prop
 | .normal, st, k => K st k
 | e, st, k => Q e st k
def udy (id : Nat) (Q : Exit → St → Nat → Prop) : Exit → St → Nat → Prop
 | .exit id', st, k => if id' = id then Q .normal st k else Q (.exit id') st k
 | e, st, k => Q e st k
def qp (ops : Array Oper) (K : St → Nat → Prop) (rest : List Oper) (st : St) (k : Nat) : Prop :=
 ∀ E W a, I.J k E W → Sim E W (I.st st k) a → ∀ Q : Exit → Act → World → Prop, (∀ a' E' W' st' k', I.J k' E' W' → Sim E' W' (I.st st' k') a' → K st' k' → Q .normal a' W') → wpListIn (fen none) 1 P ops Q rest a W
end
/-- Cells that name nothing beyond m: what stands in slots last. -/
def lowR (m : Nat) : List Nat → List (Nat × C) → Prop
 | _, [] => True
 | s, p :: r => (s.contains p.1 = true ∨ p.2.low m) ∧ lowR m (p.1 :: s) r
theorem ua4 {m : Nat} {l : List C} {i : Nat} (hl : (l.getD i .any).low m) : ∀ {r : List (Nat × C)} {s : List Nat}, lowR m s r → s.contains i = false → (ca l r i).low m
 | [], _, _, _ => hl
 | p :: r, s, h, hi => by
  simp only [ca]
  cases hb : Nat.beq p.1 i
  ·rw [cond_false]
   refine ua4 hl h.2 ?_
   have hne : ¬ p.1 = i := fun e => by rw [e] at hb; simp at hb
   simp only [List.contains_cons, Bool.or_eq_false_iff, beq_eq_false_iff_ne]
   exact ⟨fun e => hne e.symm, hi⟩
  ·rw [cond_true]
   have e := Nat.eq_of_beq_eq_true hb
   rcases h.1 with h1 | h1
   ·rw [e, hi] at h1; cases h1
   ·exact h1

/-- .. so what stood in slots ahead. -/
def lowN (m : Nat) (s : List Nat) : Nat → List C → Prop
 | _, [] => True
 | i, c :: l => (s.contains i = true ∨ c.low m) ∧ lowN m s (i + 1) l
theorem ua6 {m : Nat} {s : List Nat} : ∀ {l : List C} {i j : Nat}, lowN m s i l → s.contains (i + j) = false → (l.getD j .any).low m
 | [], _, _, _, _ => .any
 | c :: l, i, 0, h, hs => by
  rcases h.1 with h1 | h1
  ·rw [Nat.add_zero] at hs; rw [hs] at h1; cases h1
  ·exact h1
 | c :: l, i, j + 1, h, hs => ua6 (l := l) (i := i + 1) (j := j) h.2 (by rw [show i + 1 + j = i + (j + 1) by omega]; exact hs)
theorem ua5 {m : Nat} {l : List C} {i : Nat} : ∀ {r : List (Nat × C)} {s : List Nat}, ((r.map (·.1)).contains i = false → (l.getD i .any).low m) → lowR m s r → s.contains i = false → (ca l r i).low m
 | [], _, hl, _, _ => hl rfl
 | p :: r, s, hl, h, hi => by
  simp only [ca]
  cases hb : Nat.beq p.1 i
  ·rw [cond_false]
   have hne : ¬ p.1 = i := fun e => by rw [e] at hb; simp at hb
   refine ua5 (fun hk => hl ?_) h.2 ?_
   ·simp only [List.map_cons, List.contains_cons, Bool.or_eq_false_iff, beq_eq_false_iff_ne]
    exact ⟨fun e => hne e.symm, hk⟩
   ·simp only [List.contains_cons, Bool.or_eq_false_iff, beq_eq_false_iff_ne]
    exact ⟨fun e => hne e.symm, hi⟩
  ·rw [cond_true]
   have e := Nat.eq_of_beq_eq_true hb
   rcases h.1 with h1 | h1
   ·rw [e, hi] at h1; cases h1
   ·exact h1
/-- so that what stands in slots last names nothing beyond what is owned -/
theorem zK {p : Prop} (h : p := by (try dsimp only); repeat' (first | exact trivial | exact .inl rfl | refine ⟨?_, ?_⟩ | exact .v | exact .any | refine .inr ?_ | refine .elem ?_ | refine .agg ?_ | refine .tup ?_ | refine .fn ?_ | exact bd _ _ | exact e8 _ _ | exact dz _ _ | exact fe _ (by (try dsimp only); omega) | exact .box (by (try dsimp only); omega) | exact em | exact cv | exact ec _ | refine bn ?_ ?_)) : p := h
section
variable {P : Program} {I : FC} {Q : Exit → St → Nat → Prop} {st : St} {k : Nat}
theorem r8 (h : Q .normal st k) : FW P I .skip Q st k := fun _ _ _ hj hs => wpIn_skip ⟨_, st, k, hj, hs, h⟩
theorem xi {id : Nat} (h : Q (.exit id) st k) : FW P I (.exit id) Q st k := fun _ _ _ hj hs => wpIn_exit ⟨_, st, k, hj, hs, h⟩
theorem ni {x z : Code} (h : ∀ K : St → Nat → Prop, (∀ st' k', FW P I z Q st' k' → K st' k') → FW P I x (udx K Q) st k) : FW P I (.seq x z) Q st k := by
 intro E W a hj hs
 refine wpIn_seq (wpIn_mono (h _ (fun _ _ h => h) E W a hj hs) ?_)
 rintro e a' W' ⟨E', st', k', h1, h2, h3⟩
 cases e with
 | normal => exact h3 E' W' a' h1 h2
 | _ => exact ⟨E', st', k', h1, h2, h3⟩
theorem p9 {id : Nat} {c : Code} (h : FW P I c (udy id Q) st k) : FW P I (.block id c) Q st k := by
 intro E W a hj hs
 refine wpIn_block (wpIn_mono (h E W a hj hs) ?_)
 rintro e a' W' ⟨E', st', k', h0, h1, h2⟩
 cases e with
 | exit id' =>
  simp only [udy] at h2
  simp only [Exit.inBlock]
  split at h2
  ·rename_i e; rw [if_pos e]; exact ⟨E', st', k', h0, h1, h2⟩
  ·rename_i e; rw [if_neg e]; exact ⟨E', st', k', h0, h1, h2⟩
 | _ => exact ⟨E', st', k', h0, h1, h2⟩
theorem r9 {c : Operand} {x z : Code} {b : Bool} (hc : evC st c = .v (.bool b)) (ht : b = true → FW P I x Q st k) (hf : b = false → FW P I z Q st k) : FW P I (.cond c x z) Q st k := by
 intro E W a hj hs
 have : evC (I.st st k) c = .v (.bool b) := hc
 exact wpIn_cond_split ((this ▸ hs.ev c).v_inv) (fun e => ht e E W a hj hs) (fun e => hf e E W a hj hs)
theorem jw {c : Code} (m : Nat) (h : FW P I c Q { st with l := firsts st.l st.r 0 m, r := [] } k) : FW P I c Q st k := fun E W a hj hs => h E W a hj (hs.wipe m)
theorem xh {X : Type} {c : Code} (Inv : X → Prop) (μ : X → Nat) (u : X → List (Nat × C)) (kk : X → Nat) (x0 : X) (hr : st.r = []) (h0 : Inv x0) (e0 : pa st.l [] (u x0)) (hk : k = kk x0)
  (hu : ∀ x, Inv x → py I.nx (u x))
  (round : ∀ x, Inv x → FW P I c (udx (fun st' k' => ∃ x', μ x' < μ x ∧ Inv x' ∧ k' = kk x' ∧ Back (I.st st k) (u x') (I.G k') (I.st st' k')) Q) { st with r := u x } (kk x)) : FW P I (.loop c) Q st k := by
 intro E W a hj hs
 refine ucs (fun m a1 W1 => ∃ x E1, m = μ x ∧ Inv x ∧ I.J (kk x) E1 W1 ∧ Sim E1 W1 (I.st { st with r := u x } (kk x)) a1) (μ x0) ⟨x0, E, rfl, h0, hk ▸ hj, ?_⟩ ?_
 ·have := le_r (n := st.n) (G := I.G k) (nx := I.nx) (df := 0) e0 rfl E W a (by rw [← hr]; exact hs)
  rw [← hk]
  exact this
 ·rintro m a1 W1 ⟨x, E1, rfl, hI, hj1, hs1⟩
  refine wpIn_mono (round x hI E1 W1 a1 hj1 hs1) ?_
  rintro e a' W' ⟨E', st', k', h1, h2, h3⟩
  cases e with
  | normal =>
   obtain ⟨x', q1, q2, rfl, q3⟩ := h3
   refine ⟨μ x', q1, x', E', rfl, q2, h1, ?_⟩
   refine ⟨by have := h2.d; exact this, h2.sz.trans (show st'.n = st.n from q3.n.1), fun i v hv => ?_, h2.g⟩
   have hcl : ca st.l (u x') i = .any ∨ ca st.l (u x') i = ca st'.l st'.r i := by
    by_cases hi : i < st.l.length
    ·rcases xm _ _ q3.fits i (Nat.zero_le _) (by show i < 0 + st.l.length; omega) with h | h
     ·exact .inl h
     ·exact .inr h.symm
    ·rcases xf st.l (u x') i with ⟨p, hp, he, he2⟩ | ⟨_, he⟩
     ·rcases q3.keys with hk | hk
      ·have : p.1 < st.l.length := w9 hk p hp
       omega
      ·rcases xl hk p hp with h | h
       ·left; rw [he2, h]
       ·right; rw [he2, ← h, he]; rfl
     ·left; rw [he, List.getD_eq_getElem?_getD, List.getElem?_eq_none (by omega)]; rfl
   show R E' W' (ca st.l (u x') i) v
   rcases hcl with h | h
   ·rw [h]; exact .any
   ·rw [h]; exact h2.t i v hv
  | _ => exact ⟨E', st', k', h1, h2, h3⟩
/-- What plain code must leave. -/
def SegP (I : FC) (k : Nat) (l : List C) (n : Nat) (st' : St) : Prop := st'.df = 0 ∧ st'.n = n ∧ (st'.l = l ∨ lowN I.nx (st'.r.map (·.1)) 0 st'.l) ∧ I.nx ≤ st'.nx ∧ (∀ n o, I.G k n = some o → st'.G n = some o) ∧ lowR I.nx [] st'.r
theorem yy (ok : I.Ok P) {E : Env} {W : World} {a : Act} (hj : I.J k E W) (hs : Sim E W (I.st st k) a) (hr : st.r = []) {E' : Env} {W' : World} {st' : St} {a' : Act} (h1 : Ev E W E' W') (h2 : Sim E' W' st' a') (h3 : SegP I k st.l st.n st') : I.J k (E'.drop I.nx) W' ∧ Sim (E'.drop I.nx) W' (I.st st' k) a' := by
 obtain ⟨q1, q2, q3, q4, q5, q6⟩ := h3
 have hnx : E.nx = I.nx := hs.g.nx
 have hlow := hs.lowG
 have hgl : ∀ n o, I.G k n = some o → n < I.nx ∧ o.low I.nx := hlow
 have hll : ∀ i, i < st.n → (st.l.getD i .any).low I.nx := fun i hi => by
  have := hs.low i hi
  have e : ca (I.st st k).l (I.st st k).r i = st.l.getD i .any := by show ca st.l st.r i = _; rw [hr]; rfl
  rw [e] at this
  exact this
 have hs' := h2.dropTo (st' := I.st st' k) rfl q1.symm q4 (fun i hi => .inr ⟨rfl, by
  rcases q3 with q3 | q3
  ·exact ua4 (q3 ▸ hll i (q2 ▸ hi)) q6 rfl
  ·exact ua5 (fun hk => ua6 (i := 0) q3 (by rw [Nat.zero_add]; exact hk)) q6 rfl⟩) (fun n o ho => ⟨q5 n o ho, hgl n o ho⟩)
 exact ⟨ok.ev hj (h1.drop (by omega)) hs'.g, hs'⟩
/-- Plain code. -/
theorem xg (ok : I.Ok P) {c : Code} (hr : st.r = []) (h : AW none P c (fun e st' => SegP I k st.l st.n st' ∧ Q e st' k) (I.st st k)) : FW P I c Q st k := by
 intro E W a hj hs
 refine g4 ?_ (h E W a hs)
 rintro e a' W' ⟨st', E', h1, h2, h3⟩
 obtain ⟨q1, q2⟩ := yy ok hj hs hr h1 h2 h3.1
 exact ⟨_, st', k, q1, q2, h3.2⟩
/-- .. so many pieces of it: what lies between. -/
def jc (P : Program) (I : FC) (z : Code) (Q : Exit → St → Nat → Prop) (k : Nat) (st0 st1 : St) : Prop :=
 ∀ E0 W0 a0 E1 W1 a1, I.J k E0 W0 → Sim E0 W0 (I.st st0 k) a0 → Ev E0 W0 E1 W1 → Sim E1 W1 st1 a1 → cwp none P z (fun e a' W' => ∃ E' st' k', I.J k' E' W' ∧ Sim E' W' (I.st st' k') a' ∧ Q e st' k') a1 W1
theorem nj {x z : Code} (h : AW none P x (n4 (jc P I z Q k st) fun _ _ => False) (I.st st k)) : FW P I (.seq x z) Q st k := by
 intro E W a hj hs
 refine wpIn_seq (g4 ?_ (h E W a hs))
 rintro e a1 W1 ⟨st1, E1, h1, h2, h3⟩
 cases e with
 | normal => exact h3 E W a E1 W1 a1 hj hs h1 h2
 | _ => exact h3.elim
theorem uh {x z : Code} {st1 : St} (h : AW none P x (n4 (jc P I z Q k st) fun _ _ => False) st1) : jc P I (.seq x z) Q k st st1 := by
 intro E0 W0 a0 E1 W1 a1 hj hs hev hs1
 refine wpIn_seq (g4 ?_ (h E1 W1 a1 hs1))
 rintro e a2 W2 ⟨st2, E2, h1, h2, h3⟩
 cases e with
 | normal => exact h3 E0 W0 a0 E2 W2 a2 hj hs (hev.trans h1) h2
 | _ => exact h3.elim
theorem nk (ok : I.Ok P) {z : Code} {st1 : St} (hr : st.r = []) (hp : SegP I k st.l st.n st1) (h : FW P I z Q st1 k) : jc P I z Q k st st1 := by
 intro E0 W0 a0 E1 W1 a1 hj hs hev hs1
 obtain ⟨q1, q2⟩ := yy ok hj hs hr hev hs1 hp
 exact h _ W1 a1 q1 q2
theorem ubp {id : Nat} {l : List Oper} (h : qp P I l.toArray (Q .normal) l st k) : FW P I (.region id l.toArray false) Q st k := fun E W a hj hs =>
 wpIn_region_lit (h E W a hj hs _ fun a' E' W' st' k' h0 h1 h2 => ⟨E', st', k', h0, h1, h2⟩)
variable {ops : Array Oper} {K : St → Nat → Prop} {rest : List Oper} {o : Oper} {c : C}
theorem ubt (h : K st k) : qp P I ops K [] st k := fun E W a hj hs _ hq => wpListIn_nil (hq a E W st k hj hs h)
theorem ow (hg : eo ops st o = some true) (hq : NStep P o (I.st st k) c) (h : qp P I ops K rest (st.put o.dst c) k) : qp P I ops K (o :: rest) st k := by
 intro E W a hj hs Q hQ
 have hg' : eo ops (I.st st k) o = some true := hg
 refine wpListIn_step fun Kr hK => ?_
 rw [if_pos (j5 hg' hs)]
 obtain ⟨v, h1, h2⟩ := hq E W a hs
 refine wj (uf hg).2 ?_
 unfold Oper.wp
 rw [h2 W]
 have hp := hs.put o.dst h1
 exact hK _ _ (h E W _ hj (by cases hd : o.dst <;> (rw [hd] at hp; exact hp)) Q hQ)
/-- A call of yield. -/
theorem ubs (ok : I.Ok P) {fv : Operand} {args : List Operand} {ats : Array TypeId} {cs : List C} (hk : k < I.N) (hg : eo ops st o = some true) (ho : o.op = .call { callee := .value fv, args := args.toArray, argTypes := ats }) (hf : evC st fv = .v (.func (.yield I.l) #[] #[])) (has : args.map (evC st) = cs) (hcs : cs = I.cl k)
  (h1 : qp P I ops K rest (st.put o.dst (.v (.bool true))) (k + 1)) : qp P I ops K (o :: rest) st k := by
 intro E W a hj hs Q hQ
 have hg' : eo ops (I.st st k) o = some true := hg
 have hf' : evC (I.st st k) fv = .v (.func (.yield I.l) #[] #[]) := hf
 refine wpListIn_step fun Kr hK => ?_
 rw [if_pos (j5 hg' hs)]
 have hfv := (hf' ▸ hs.ev fv).v_inv
 subst hcs
 have hra : Rs E W (I.cl k) (args.map a.eval) := by
  rw [← has]
  refine ⟨by simp, fun j c v h1 h2 => ?_⟩
  rw [List.getElem?_map] at h1 h2
  cases hx : args[j]? with
  | none => rw [hx] at h1; cases h1
  | some x =>
   rw [hx] at h1 h2
   simp only [Option.map_some, Option.some.injEq] at h1 h2
   subst h1; subst h2
   exact hs.ev x
 obtain ⟨fn, tmps, assign, body, hy, hR⟩ := ok.hY hj hk hra
 refine ⟨fun _ _ => trivial, ?_⟩
 rw [Oper.semAt_eq _ _ _ (uf hg).2]
 have hrun : (execOp a.eval o).run P W = .ok (.round I.l fn tmps assign body) W := by
  simp only [execOp, ho, resolve, hfv]
  simp [Deferred.ofValue, invoke]
  simpa using hy
 rw [hrun]
 refine ⟨fun e => (by cases e), uf8 (hR.mono ?_)⟩
 rintro e W' ⟨rfl, E', h3, h4⟩
 refine hK _ _ (h1 E' W' _ h4 ?_ Q hQ)
 have hdef : a.defers = [] := List.eq_nil_of_length_eq_zero hs.d.2
 have hs' : Sim E' W' (I.st st (k + 1)) a := by
  refine ⟨⟨?_, hs.d.2⟩, hs.sz, fun i v hv => (hs.t i v hv).evr h3, ok.sim h4⟩
  rw [hdef]
  exact ok.F h4
 have hp := hs'.put o.dst (c := .v (.bool true)) (v := .bool true) (.v rfl)
 cases hd : o.dst <;> (rw [hd] at hp; exact hp)
end
theorem Rs.evr2 {E E' : Env} {w w' : World} {cs : List C} {vs : List Value} (h : Rs E w cs vs) (k : Ev E w E' w') : Rs E' w' cs vs := ⟨h.1, fun j c v h1 h2 => (h.2 j c v h1 h2).ev k⟩
theorem ubi {nF : Nat} {F : GObj} {P : Program} {gf : Nat} {fn : Func} {c : Code} {caps : List C} {N : Nat} {cl : Nat → List C} (hf : P.funcs[gf]? = some fn) (hb : fn.body = some c) (hr : fn.results = #[])
  (h : ∀ I : FC, I.N = N → I.cl = cl → I.Ok P → (∀ k, I.G k nF = some F) → nF < I.nx →
   FW P I c (fun e _ k => (e = .normal ∨ e = .ret) ∧ k = N) { n := caps.length + 1 + (fn.ntmps - (caps.length + 1)), l := .v (.func (.yield I.l) #[] #[]) :: caps, r := [], G := noG, nx := 0 } 0) : uz nF F P gf caps N cl := by
 intro I hN hcl ok hG hn E w lb hj hrs
 have hargs : Rs E w (.v (.func (.yield I.l) #[] #[]) :: caps) (.func (.yield I.l) #[] #[] :: lb) := Rs.cons (.v rfl) hrs
 have hsim := Sim.start hargs (ok.sim hj) (ok.F hj) fn.ntmps
 have e1 : (#[.func (.yield I.l) #[] #[]] ++ lb.toArray : Array Value) = (.func (.yield I.l) #[] #[] :: lb).toArray := by simp
 rw [e1]
 have hw := h I hN hcl ok hG hn E w _ hj (show Sim E w (FC.st I _ 0) _ by unfold FC.st; simpa using hsim)
 refine callsIn_of_wp_marks hf hb trivial (wpIn_mono (ucr (m := 2) hw) ?_)
 rintro e a' w' ⟨E', st', k', q1, q2, q3, rfl⟩
 have hd : a'.defers = [] := List.eq_nil_of_length_eq_zero q2.d.2
 have fin : bodyPostM (fen none) 2 P fn (fun e W' => (∃ v, e = .returned v) ∧ ∃ E', I.J k' E' W') .ret a' w' := by
  show LeavesInM (fen none) 2 P fn a'.tmps _ a'.defers .returning w'
  rw [hd]
  exact ⟨_, results_none hr _ _ _, ⟨_, rfl⟩, E', q1⟩
 rcases q3 with rfl | rfl
 ·exact fin
 ·exact fin

def sq (J : Nat → Nat → Option GObj) (k : Nat) (e : Exit) (st : St) : Prop :=
 match e with
 | .normal => ∀ n o, J k n = some o → st.G n = some o
 | _ => False
theorem udd {P : Program} {nF : Nat} {F : GObj} {N : Nat} {g : Operand} {ps : Array Tmp} {assign body : Code} {Q : Exit → St → Prop} {st : St} {gf : Nat} [Fun P gf] {caps : List C} {cl : Nat → List C} (pl : List Tmp)
  (J : Nat → Nat → Option GObj) (u : Nat → List (Nat × C)) (it : uz nF F P gf caps N cl) (hJF : ∀ k, J k nF = some F) (hnF : nF < st.nx)
  (hg : evC st g = .fn (.func gf) caps) (hps : ps = pl.toArray) (hlen : ∀ k, (cl k).length = pl.length)
  (hu : ∀ k, putL pl (cl k) { st with G := J k, df := 0 } = { st with r := u k, G := J k, df := 0 })
  (h0 : ∀ n o, J 0 n = some o → st.G n = some o) (hJ : ∀ k n o, J k n = some o → st.G n = some o ∨ (n < st.nx ∧ o.low st.nx))
  (round : ∀ l k, k < N → AW (some l) P assign (n4 (AW (some l) P body (sq J (k + 1))) fun _ _ => False) { st with r := u k, G := J k, df := 0 })
  (done : Q .normal { st with G := J N, df := st.df + 1 }) : AW none P (.rangeFunc g ps assign body) Q st := by
 intro E w a hs
 obtain ⟨vs, hgv, hvs⟩ := (hg ▸ hs.ev g).fn_inv
 have hlow : ∀ {G : Nat → Option GObj}, (∀ n o, G n = some o → st.G n = some o ∨ (n < st.nx ∧ o.low st.nx)) → ∀ n o, G n = some o → n < st.nx ∧ o.low st.nx := fun h n o ho => by
  rcases h n o ho with h1 | h1
  ·exact hs.lowG n o h1
  ·exact h1
 have hF : E.F ≤ w.heap.size := hs.d.F
 have hnx := hs.g.nx
 have simAt : ∀ {E1 : Env} {W : World} {G : Nat → Option GObj} {ds : List Deferred} {k : Nat}, Ev E w E1 W → SimG E1 W G st.nx → DefN E1 W k ds → Sim E1 W { st with G := G, df := k } { a with defers := ds } := fun hev hg1 hd =>
  ⟨hd, hs.sz, fun i v hv => (hs.t i v hv).ev hev, hg1⟩
 have marked : ∀ {E1 : Env} {W : World} {D : Nat}, Ev E w E1 W → (∀ n t, E1.T n = some t → n < st.nx) → NCB st.nx w.heap.size E1 W → w.heap.size ≤ D → W.heap[D]? = some (.deferred (some [])) → DefN E1 W (st.df + 1) ({ target := .collected D, args := #[] } :: a.defers) := fun {E1 W D} hev hlt hn hD hK => by
  refine ⟨⟨⟨D, rfl, by rw [hev.x.F]; omega, hK, fun n t ht hb => ?_, ?_⟩, (hs.d.ev hev).1⟩, by simp [hs.d.2]⟩
  ·have := hn n t D _ (hlt n t ht) ht hb hK rfl
   omega
  ·have : ∀ {ds : List Deferred}, DefOk E w ds → ∀ d' ∈ ds, d'.target ≠ .collected D := by
    intro ds
    induction ds with
    | nil => exact fun _ d' h => by cases h
    | cons d ds ih =>
     rintro ⟨⟨D', e', _, h2, _⟩, k⟩ d' hd'
     rcases List.mem_cons.1 hd' with rfl | hd'
     ·rw [e']
      intro e
      simp only [Target.collected.injEq] at e
      have := (Array.getElem?_eq_some_iff.1 h2).1
      omega
     ·exact ih k d' hd'
   exact this hs.d.1
 refine ucr (n := 3) (wpIn_rangeFunc fun fn _ => ?_)
 -- the loop's record and the block for deferred calls
 obtain ⟨rc, hrc⟩ : ∃ rc : LoopState → Option Code → Loop, rc = fun s pe => { state := s, pending := pe, fn, tmps := a.tmps, params := ps, assign, body, defers := w.heap.size } := ⟨_, rfl⟩
 obtain ⟨W1, hW1⟩ : ∃ W1, (w.alloc (.deferred (some []))).alloc (.loop (rc .ready none)) = W1 := ⟨_, rfl⟩
 have sz1 : W1.heap.size = w.heap.size + 2 := by rw [← hW1]; simp
 have gr1 : w.grownBy W1 none := by
  refine ⟨by rw [← hW1]; rfl, by rw [← hW1]; rfl, by rw [← hW1]; rfl, by omega, fun k hk _ => ?_⟩
  rw [← hW1, Below.heap_alloc _ _ _ (by simp; omega), Below.heap_alloc _ _ _ hk]
 have recs : W1.heap[w.heap.size + 1]? = some (.loop (rc .ready none)) ∧ W1.heap[w.heap.size]? = some (.deferred (some [])) := by
  rw [← hW1]
  refine ⟨by have := World.alloc_heap_new (w.alloc (.deferred (some []))) (.loop (rc .ready none)); simpa using this, ?_⟩
  rw [Below.heap_alloc _ _ _ (by simp)]
  exact World.alloc_heap_new w _
 have own1 : OwnW E w (J 0) st.nx W1 := OwnW.turn hs.g ⟨E, Ev.refl E w, hs.g.weak h0, fun n t b o _ ht hb _ _ => (hs.g.tb n t.1 t.2.1 t.2.2 b ht hb).2⟩ gr1 (fun r e => by cases e)
 refine ⟨w.heap.size + 1, [{ target := .collected w.heap.size, args := #[] }], W1, { target := .fn (.func gf) vs.toArray, args := #[.func (.yield (w.heap.size + 1)) #[] #[]] }, W1, gf, #[.func (.yield (w.heap.size + 1)) #[] #[]] ++ vs.toArray, W1, ?_, ?_, fun _ _ => trivial, ?_, fun e => (by cases e), ?_⟩
 ·rw [← hW1, hrc]; exact run_enterLoop_outer _ _ _ _ _
 ·simp only [resolve, hgv]; simp [go_sem]
 ·simp [invoke, go_sem, vx]
 have below1 : Below w.heap.size w W1 := ⟨gr1.os, gr1.tape, gr1.output, gr1.size, fun k hk => gr1.block k hk (by simp)⟩
 obtain ⟨E0, hev0, hsg0, hn0⟩ := own1
 have unt : ∀ {E1 : Env} {W : World} {k : Nat} {G : Nat → Option GObj} {o : Obj}, SimG E1 W G st.nx → NCB st.nx w.heap.size E1 W → w.heap.size ≤ k → W.heap[k]? = some o → o.isCells = false → ∀ n t, E1.T n = some t → blk t.2.2 ≠ some k := fun {E1 W k G o} hs1 hn hk' ho hf n t ht hb => by
  have hE1 : E1.nx = st.nx := hs1.nx
  have := hn n t k o (hE1 ▸ hs1.lt n t ht) ht hb ho hf
  omega
 obtain ⟨I, hI⟩ : ∃ I : FC, I = { G := J, nx := st.nx, N := N, l := w.heap.size + 1, cl := cl, J := fun k E1 W => Ev E w E1 W ∧ SimG E1 W (J k) st.nx ∧ NCB st.nx w.heap.size E1 W ∧ W.heap[w.heap.size + 1]? = some (.loop (rc .ready none)) ∧ W.heap[w.heap.size]? = some (.deferred (some [])) } := ⟨_, rfl⟩
 have hIJ : ∀ k E1 W, I.J k E1 W = (Ev E w E1 W ∧ SimG E1 W (J k) st.nx ∧ NCB st.nx w.heap.size E1 W ∧ W.heap[w.heap.size + 1]? = some (.loop (rc .ready none)) ∧ W.heap[w.heap.size]? = some (.deferred (some []))) := fun k E1 W => by rw [hI]
 have ok : I.Ok P := by
  refine ⟨fun {k E1 W} h => ?_, fun {k E1 W} h => ?_, fun {k E1 W E2 W2} h h1 h2 => ?_, ?_⟩
  ·rw [hIJ] at h; rw [hI]; exact h.2.1
  ·rw [hIJ] at h
   rw [h.1.x.F]; exact Nat.le_trans hF h.1.below.size
  ·rw [hIJ] at h ⊢
   rw [hI] at h2
   obtain ⟨q1, q2, q3, q4, q5⟩ := h
   have hE1 : E1.nx = st.nx := q2.nx
   exact ⟨q1.trans h1, h2, q3.step (by omega) q2 h1, h1.x.oth _ _ q4 (unt q2 q3 (by omega) q4 rfl), h1.x.oth _ _ q5 (unt q2 q3 (Nat.le_refl _) q5 rfl)⟩
  -- a round
  rintro k E1 W us hj hkN hcl
  rw [hIJ] at hj
  obtain ⟨hev, hs1, hn, hl, hk⟩ := hj
  have hkN' : k < N := by rw [hI] at hkN; exact hkN
  replace hcl : Rs E1 W (cl k) us := by rw [hI] at hcl; exact hcl
  have hul : us.length = pl.length := by rw [hcl.1]; exact hlen k
  have hE1 : E1.nx = st.nx := hs1.nx
  have unt : ∀ {k : Nat} {o : Obj}, w.heap.size ≤ k → W.heap[k]? = some o → o.isCells = false → ∀ n t, E1.T n = some t → blk t.2.2 ≠ some k := fun h1 h2 h3 => unt hs1 hn h1 h2 h3
  have hIl : I.l = w.heap.size + 1 := by rw [hI]
  rw [hIl]
  have hy := run_yield (P := P) (args := us.toArray) hl (by rw [hrc]; simp [hps, hul])
  rw [hrc] at hy
  refine ⟨fn, _, assign, body, hy, roundIn_of_wpIn trivial ?_⟩
  clear hy
  have ha0 : ({ tmps := (ps.zip us.toArray).foldl (fun t (p, v) => t.setIfInBounds p v) a.tmps, defers := [] } : Act) = rf pl us { tmps := a.tmps, defers := [] } := by
   rw [zj, hps]
   simp
  have hF1 : E1.F ≤ W.heap.size := by rw [hev.x.F]; exact Nat.le_trans hF hev.below.size
  have hsim := yv pl hcl (simAt (ds := []) (k := 0) hev hs1 ⟨hF1, rfl⟩)
  rw [hu k] at hsim
  show assign.wpIn (fen (some (w.heap.size + 1))) 1 P _ { tmps := (ps.zip us.toArray).foldl (fun t (p, v) => t.setIfInBounds p v) a.tmps, defers := [] } W
  rw [ha0]
  refine wpIn_mono (round (w.heap.size + 1) k hkN' E1 W _ hsim) ?_
  rintro e a1 Wa ⟨st1, E2, q1, q2, q3⟩
  cases e with
  | normal =>
   have hla := q1.x.oth _ _ hl (unt (by omega) hl rfl)
   have hka := q1.x.oth _ _ hk (unt (Nat.le_refl _) hk rfl)
   have hlta := (Array.getElem?_eq_some_iff.1 hla).1
   refine ⟨_, run_beginRound hla (by rw [hrc]), ?_⟩
   -- the record is busy
   have unt2 : ∀ {k : Nat} {o : Obj}, w.heap.size ≤ k → W.heap[k]? = some o → o.isCells = false → ∀ n t, E2.T n = some t → blk t.2.2 ≠ some k := fun {k o} hk' ho hf n t ht hb => by
    obtain ⟨t0, h1, h2⟩ := q1.x.nb n t k o ht hb ho
    exact unt hk' ho hf n t0 h1 h2
   obtain ⟨Wb, hWb⟩ : ∃ Wb, Wa.putObj (w.heap.size + 1) (.loop { rc .ready none with state := .busy }) = Wb := ⟨_, rfl⟩
   rw [hWb]
   have grb : Wa.grownBy Wb (some (w.heap.size + 1)) := hWb ▸ grownBy_putObj' _ _ _
   have hlb : Wb.heap[w.heap.size + 1]? = some (.loop { rc .ready none with state := .busy }) := hWb ▸ World.putObj_heap_same hlta
   have hkb : Wb.heap[w.heap.size]? = some (.deferred (some [])) := (grb.block _ (Array.getElem?_eq_some_iff.1 hka).1 (by simp)).trans hka
   obtain ⟨evb, hcellb⟩ := (hev.trans q1).turn hs.g q2.g.fresh grb (fun r e => by cases e; exact ⟨by omega, _, hla, rfl⟩)
   have hblkb : ∀ n t b, E2.T n = some t → blk t.2.2 = some b → Wb.heap[b]? = Wa.heap[b]? := fun n t b ht hb => by
    refine grb.block b (q2.g.tb n t.1 t.2.1 t.2.2 b ht hb).2 fun e => ?_
    simp only [Option.some.injEq] at e
    subst e
    exact unt2 (by omega) hl rfl n t ht hb
   have gb := q2.g.heap hcellb hblkb grb.size
   have db : DefN E2 Wb st1.df a1.defers := by
    have : ∀ {ds : List Deferred}, DefOk E2 Wa ds → DefOk E2 Wb ds := by
     intro ds
     induction ds with
     | nil => exact fun h => Nat.le_trans h grb.size
     | cons d ds ih =>
      rintro ⟨⟨D', e', h1, h2, h3, h4⟩, k⟩
      refine ⟨⟨D', e', h1, (grb.block D' (Array.getElem?_eq_some_iff.1 h2).1 fun e => ?_).trans h2, h3, h4⟩, ih k⟩
      simp only [Option.some.injEq] at e
      subst e
      rw [hla] at h2; cases h2
    exact ⟨this q2.d.1, q2.d.2⟩
   have simb : Sim E2 Wb st1 a1 := ⟨db, q2.sz, fun i v hv => (q2.t i v hv).same (fun _ => Nat.le_refl _) hcellb rfl rfl, gb⟩
   have nb2 : NCB st.nx w.heap.size E2 Wb := fun n t b o hm ht hb ho hf => by
    have := hblkb n t b ht hb
    exact hn.step (by omega) hs1 q1 n t b o hm ht hb (this.symm.trans ho) hf
   have hm2 : st.nx ≤ E2.nx := hE1 ▸ q1.nx
   refine wpIn_mono (q3 E2 Wb a1 simb) ?_
   rintro e a3 W3 ⟨st', E3, r1, r2, r3⟩
   have hl3 := r1.x.oth _ _ hlb (unt2 (by omega) hl rfl)
   have hk3 := r1.x.oth _ _ hkb (unt2 (Nat.le_refl _) hk rfl)
   have nb3 := nb2.step hm2 gb r1
   have own : ∀ {Gk : Nat → Option GObj}, (∀ n o, Gk n = some o → st'.G n = some o) → (∀ n o, Gk n = some o → n < st.nx ∧ o.low st.nx) → OwnW E w Gk st.nx W3 := fun {Gk} hsub hlw =>
    ⟨E3.drop st.nx, (evb.trans r1).drop (by omega), (r2.g.weak hsub).drop hlw, fun n t b o hm ht hb ho hf => nb3 n t b o hm (by simp only [Env.drop] at ht; rw [if_pos hm] at ht; exact ht) hb ho hf⟩
   -- the end of the round
   have fin : ∀ (jump : Option Code), (Instr.endRound (w.heap.size + 1) jump).run P W3 = .ok (.bool jump.isNone) (W3.putObj (w.heap.size + 1) (.loop (rc (if jump.isNone then .ready else .done) jump))) ∧
     (W3.putObj (w.heap.size + 1) (.loop (rc (if jump.isNone then .ready else .done) jump))).heap[w.heap.size + 1]? = some (.loop (rc (if jump.isNone then .ready else .done) jump)) ∧
     (W3.putObj (w.heap.size + 1) (.loop (rc (if jump.isNone then .ready else .done) jump))).heap[w.heap.size]? = some (.deferred (some [])) := fun jump => by
    refine ⟨?_, World.putObj_heap_same (Array.getElem?_eq_some_iff.1 hl3).1, (World.putObj_heap_other (by omega)).trans hk3⟩
    have := run_endRound (P := P) jump hl3
    rw [hrc] at this ⊢
    exact this
   have keep : ∀ jump, KeepL E W (W3.putObj (w.heap.size + 1) (.loop (rc (if jump.isNone then .ready else .done) jump))) := fun jump => ⟨by
    rw [World.putObj_size]
    exact Nat.le_trans q1.below.size (Nat.le_trans grb.size r1.below.size), fun b i hi => by
    have hne : b ≠ w.heap.size + 1 := fun e => by subst e; rw [hs.g.fresh _ (by omega)] at hi; omega
    refine (World.cell?_of_block (w := W3) (World.putObj_heap_other hne)).trans ?_
    have h1 : i < E1.L b := Nat.lt_of_lt_of_le hi (hev.L b)
    have h2 : i < E2.L b := Nat.lt_of_lt_of_le h1 (q1.L b)
    exact (r1.cell b i h2).trans ((hcellb b i h2).trans (q1.cell b i h1))⟩
   cases e with
   | normal =>
    obtain ⟨h1, h2, h3⟩ := fin none
    have hjm : ∀ n o, J (k + 1) n = some o → n < st.nx ∧ o.low st.nx := hlow (hJ _)
    have hown : OwnW E w (J (k + 1)) st.nx W3 := own r3 hjm
    have hevd : Ev E w (E3.drop st.nx) W3 := (evb.trans r1).drop (by omega)
    have hsgd : SimG (E3.drop st.nx) W3 (J (k + 1)) st.nx := (r2.g.weak r3).drop hjm
    have hncd : NCB st.nx w.heap.size (E3.drop st.nx) W3 := fun n t b o hm ht hb ho hf => nb3 n t b o hm (by simp only [Env.drop] at ht; rw [if_pos hm] at ht; exact ht) hb ho hf
    obtain ⟨W4, hW4⟩ : ∃ W4, W3.putObj (w.heap.size + 1) (.loop (rc (if (none : Option Code).isNone then .ready else .done) none)) = W4 := ⟨_, rfl⟩
    have gr4 : W3.grownBy W4 (some (w.heap.size + 1)) := hW4 ▸ grownBy_putObj' _ _ _
    have hrow : ∀ r, some (w.heap.size + 1) = some r → w.heap.size ≤ r ∧ ∃ o : Obj, W3.heap[r]? = some o ∧ o.isCells = false := fun r e => by cases e; exact ⟨by omega, _, hl3, rfl⟩
    obtain ⟨ev4, hcell4⟩ := hevd.turn hs.g hsgd.fresh gr4 hrow
    have unt3 : ∀ n t b, (E3.drop st.nx).T n = some t → blk t.2.2 = some b → W4.heap[b]? = W3.heap[b]? := fun n t b ht hb => by
     refine gr4.block b (hsgd.tb n t.1 t.2.1 t.2.2 b ht hb).2 fun e => ?_
     simp only [Option.some.injEq] at e
     subst e
     have := hncd n t _ _ (hsgd.nx ▸ hsgd.lt n t ht) ht hb hl3 rfl
     omega
    have hsg4 : SimG (E3.drop st.nx) W4 (J (k + 1)) st.nx := hsgd.heap hcell4 unt3 gr4.size
    have hnc4 : NCB st.nx w.heap.size (E3.drop st.nx) W4 := fun n t b o hm ht hb ho hf => hncd n t b o hm ht hb ((unt3 n t b ht hb).symm.trans ho) hf
    rw [hW4] at h1 h2 h3
    refine ⟨_, _, h1, rfl, E3.drop st.nx, ?_, ?_⟩
    ·have t1 : EvR E1 W E2 Wb := q1.r.trans (EvR.same hcellb)
     have t2 : EvR E1 W (E3.drop st.nx) W3 := (t1.trans r1.r).drop (by omega)
     exact t2.trans (EvR.same hcell4)
    ·rw [hIJ]
     exact ⟨ev4, hsg4, hnc4, h2, h3⟩
   | _ => exact r3.elim
  | _ => exact q3.elim
 have hcall := it I (by rw [hI]) (by rw [hI]) ok (fun k => by rw [hI]; exact hJF k) (by rw [hI]; exact hnF) E0 W1 vs (by rw [hIJ]; exact ⟨hev0, hsg0, hn0, recs.1, recs.2⟩) (hvs.evr2 hev0)
 rw [show I.l = w.heap.size + 1 by rw [hI]] at hcall
 refine hcall.mono ?_
 -- behind the iterator
 rintro e W2 ⟨⟨v, rfl⟩, E1, hj⟩
 rw [hIJ] at hj
 obtain ⟨hevj, hsj, hnj, hl, hk⟩ := hj
 have hI2 : OwnW E w (J N) st.nx W2 := ⟨E1, hevj, hsj, hnj⟩
 obtain ⟨E1, hev, hs1, hn⟩ := hI2.put hs.g (by omega) hl rfl (.loop { rc .ready none with state := .exhausted })
 have hK : (W2.putObj (w.heap.size + 1) (.loop { rc .ready none with state := .exhausted })).heap[w.heap.size]? = some (.deferred (some [])) := (World.putObj_heap_other (by omega)).trans hk
 exact ⟨none, _, by have := run_endLoop (P := P) hl (by rw [hrc]; simp); rw [hrc] at this ⊢; exact this, _, E1, hev, simAt hev hs1 (marked hev (fun n t ht => hs1.nx ▸ hs1.lt n t ht) hn (Nat.le_refl _) hK), done⟩
end Go.AB
namespace Go.AB
open Go Go.RowKit
open Go.AB.Enc (cells)
open Go.PB (aq ah PlaceD av ax aw bg am af cb ba cr c4)
/-- how many readers are ahead of a side -/
def sdN (p : af) : Nat → Nat
 | 0 => 0
 | 1 => p.firsts.length
 | _ => p.firsts.length + p.seconds.length
theorem vu {p : af} : ∀ {k : Nat}, k < 2 → sdN p (k + 1) = sdN p k + (di p (decide (k = 1))).length
 | 0, _ => (Nat.zero_add _).symm
 | 1, _ => rfl
 | k + 2, h => by omega
theorem uim {p : af} : ∀ {k i : Nat}, k < 2 → i < (di p (decide (k = 1))).length → co p (sdN p k + i) = ng p (decide (k = 1)) i ∧ sdN p k + i < bu p
 | 0, i, _, h => by
  have h : i < p.firsts.length := h
  rw [show sdN p 0 + i = i from Nat.zero_add i]
  unfold co bu
  rw [decide_eq_true h]
  exact ⟨rfl, by omega⟩
 | 1, i, _, h => by
  have h : i < p.seconds.length := h
  rw [show sdN p 1 + i = p.firsts.length + i from rfl]
  unfold co bu
  rw [decide_eq_false (by omega), Nat.add_sub_cancel_left]
  exact ⟨rfl, by omega⟩
 | k + 2, _, h, _ => by omega
end Go.AB
namespace Go.Proofs.YtgffhbbcpgdjjaaDoor
set_option maxRecDepth 10000
open Go Go.RowKit Go.AB
open Go.AB.Enc (cells)
open Go.PB (aq ah PlaceD av ax aw bg am af cb ba cr c4)
set_option maxHeartbeats 1000000 in
theorem uil (nF : Nat) (p : af) (h : fk p) : uz nF eg Tryd.prog 110 [.elem [.elem (jo p)]] (bu p) (fun k => [.v (.int .i64 (co p k))]) := by
 refine ubi Tryd.func110 rfl rfl fun I hN hcl ok hG hn => ?_
 simp only [Tryd.ntmps110, List.length_cons, List.length_nil, Nat.reduceAdd, Nat.reduceSub]
 have hn1 := h.nf
 have hn2 := h.ns
 refine jw 2 ?_
 refine zQ ?_
 refine nj ?_
 dsimp only [FC.st]
 refine bv fun hlt => ?_
 dsimp only at hlt
 refine bj ?_
 try dsimp only [St.put]
 refine ae rfl (dq (n := 6) (m := nF) rfl rfl (hG _) rfl) ?_
 refine aa rfl (ar rfl (by constructor)) ?_
 refine bf ?_
 dsimp only [St.put]
 show jc _ _ _ _ _ _ _
 refine nk ok rfl ⟨rfl, rfl, zK, zN, zS, zK⟩ ?_
 refine p9 ?_
 refine jw 10 ?_
 refine zQ ?_
 refine xh (X := Nat) (fun k => k ≤ 2) (fun k => 2 - k) (fun k => [(2, .any), (3, .any), (4, .any), (5, .any), (6, .any), (7, .any), (9, .v (.int .i64 (k : Int)))]) (fun k => sdN p k) 0 rfl ?_ ?_ ?_ ?_ ?_
 ·exact Nat.zero_le _
 ·exact zF
 ·rfl
 ·rintro k hI
  exact zL
 ·rintro k hI
  dsimp only at hI ⊢
  refine jw 10 ?_
  refine zQ ?_
  refine nj ?_
  dsimp only [FC.st]
  refine bv fun hlt => ?_
  dsimp only at hlt
  refine bj ?_
  refine aa rfl (dp rfl rfl rfl) ?_
  refine bf ?_
  dsimp only [St.put]
  show jc _ _ _ _ _ _ _
  refine nk ok rfl ⟨rfl, rfl, zK, zN, zS, zK⟩ ?_
  refine ni fun K1 hK1 => ?_
  refine r9 rfl (fun hc => ?_) (fun hc => ?_)
  ·replace hc := of_decide_eq_true hc
   have hk : k < 2 := by omega
   have hsl : (di p (decide (k = 1))).length ≤ 3 := by
    cases decide (k = 1)
    ·exact hn1
    ·exact hn2
   refine r8 ?_
   refine hK1 _ _ ?_
   refine ni fun K2 hK2 => ?_
   refine p9 ?_
   refine jw 10 ?_
   refine zQ ?_
   refine nj ?_
   dsimp only [FC.st]
   refine bv fun hlt => ?_
   dsimp only at hlt
   refine bj ?_
   refine aa rfl (tv (k := k) (m := 2) (sz := 3) rfl rfl rfl rfl hk (s8 hk)) ?_
   try dsimp only [St.put]
   refine ab rfl (dg rfl ?_)
   try dsimp only [St.put]
   first | refine ab rfl (cn rfl rfl rfl zG rfl rfl (by rfl) ?_) | refine ab rfl (gi rfl rfl rfl zG (by constructor) rfl zO ?_)
   refine bf ?_
   dsimp only [St.put]
   show jc _ _ _ _ _ _ _
   refine uh ?_
   refine fj (i := 4) rfl zG zC ?_
   dsimp only
   refine ia [(0, none), (1, none), (2, none), (3, none), (4, none), (5, none), (8, none), (6, none), (7, none)] (fun i => [6].contains i) (fun i => [6].contains i) (fun i => [0, 3, 4, 7, 8].contains i) [] (by kernel_rfl) (by kernel_rfl) ?_
   first | refine ai rfl rfl rfl rfl (c6 rfl rfl rfl) ?_ | refine ai rfl rfl rfl rfl (cm rfl rfl) ?_
   try dsimp only [St.put]
   first | refine ak rfl rfl rfl rfl (bw rfl rfl) ?_ | refine ak rfl rfl rfl rfl (bh rfl rfl (Enc.len _)) ?_ | refine ak rfl rfl rfl rfl (bh rfl rfl rfl) ?_ | refine ak rfl rfl rfl rfl (ci rfl rfl zG (by simp) (by first | rfl | assumption)) ?_ | refine ak rfl rfl rfl rfl (dc rfl rfl zG (by simp) (by rfl)) ?_ | refine ak rfl rfl rfl rfl (dv rfl rfl zG (by simp) (by simp)) ?_ | refine ak rfl rfl rfl rfl (bp rfl rfl zG (by simp) (dw (by assumption) rfl)) ?_ | refine ak rfl rfl rfl rfl (bp rfl rfl zG (by simp) (by assumption)) ?_ | refine ak rfl rfl rfl rfl (d8 rfl rfl zG (by simp) rfl (by assumption) rfl (by decide)) ?_ | refine ak rfl rfl rfl rfl (dq rfl rfl zG (by rfl)) ?_
   try dsimp only [St.put]
   first | refine ak rfl rfl rfl rfl (bw rfl rfl) ?_ | refine ak rfl rfl rfl rfl (bh rfl rfl (Enc.len _)) ?_ | refine ak rfl rfl rfl rfl (bh rfl rfl rfl) ?_ | refine ak rfl rfl rfl rfl (ci rfl rfl zG (by simp) (by first | rfl | assumption)) ?_ | refine ak rfl rfl rfl rfl (dc rfl rfl zG (by simp) (by rfl)) ?_ | refine ak rfl rfl rfl rfl (dv rfl rfl zG (by simp) (by simp)) ?_ | refine ak rfl rfl rfl rfl (bp rfl rfl zG (by simp) (dw (by assumption) rfl)) ?_ | refine ak rfl rfl rfl rfl (bp rfl rfl zG (by simp) (by assumption)) ?_ | refine ak rfl rfl rfl rfl (d8 rfl rfl zG (by simp) rfl (by assumption) rfl (by decide)) ?_ | refine ak rfl rfl rfl rfl (dq rfl rfl zG (by rfl)) ?_
   first | refine ai rfl rfl rfl rfl (j3 rfl rfl) ?_ | refine ai rfl rfl rfl rfl (jp rfl rfl) ?_ | refine ai rfl rfl rfl rfl (uhx rfl rfl) ?_
   first | refine ai rfl rfl rfl rfl (c6 rfl rfl rfl) ?_ | refine ai rfl rfl rfl rfl (cm rfl rfl) ?_
   try dsimp only [St.put]
   refine ak rfl rfl rfl rfl (c := val p) (kn (cs := jo p) rfl rfl (show 4 ≤ 7 by decide)) ?_
   refine ai rfl rfl rfl rfl (ar rfl (by constructor)) ?_
   refine jb ?_
   try dsimp only [St.put]
   refine gz rfl rfl rfl rfl (az rfl rfl rfl (m7 (decide (k = 1)) p) ?_)
   first | refine ef rfl rfl rfl rfl (cc rfl rfl (List.length_map _)) ?_ | refine ef rfl rfl rfl rfl (cc rfl rfl rfl) ?_ | refine ef rfl rfl rfl rfl (lu rfl rfl) ?_ | refine ef rfl rfl rfl rfl (mh rfl rfl) ?_ | refine ef rfl rfl rfl rfl (mg rfl rfl) ?_ | refine ef rfl rfl rfl rfl (mf rfl rfl (by omega)) ?_
   refine ja ?_
   dsimp only [St.put]
   show jc _ _ _ _ _ _ _
   refine nk ok rfl ⟨rfl, rfl, zK, zN, zS, zK⟩ ?_
   refine p9 ?_
   refine jw 21 ?_
   refine zQ ?_
   refine xh (X := Nat) (fun i => i ≤ (di p (decide (k = 1))).length) (fun i => (di p (decide (k = 1))).length - i) (fun i => [(5, .any), (6, .any), (7, .any), (20, .v (.int .i64 (i : Int)))]) (fun i => sdN p k + i) 0 rfl ?_ ?_ ?_ ?_ ?_
   ·exact Nat.zero_le _
   ·exact zF
   ·rfl
   ·rintro i hI
    exact zL
   ·rintro i hJ
    dsimp only at hJ ⊢
    refine jw 21 ?_
    refine zQ ?_
    refine nj ?_
    dsimp only [FC.st]
    refine bv fun hlt => ?_
    dsimp only at hlt
    refine bj ?_
    refine aa rfl (dp rfl rfl rfl) ?_
    refine bf ?_
    dsimp only [St.put]
    show jc _ _ _ _ _ _ _
    refine nk ok rfl ⟨rfl, rfl, zK, zN, zS, zK⟩ ?_
    refine ni fun K3 hK3 => ?_
    refine r9 rfl (fun hc => ?_) (fun hc => ?_)
    ·replace hc := of_decide_eq_true hc
     have hi : i < (di p (decide (k = 1))).length := by omega
     obtain ⟨hL, hN2⟩ := uim hk hi
     refine r8 ?_
     refine hK3 _ _ ?_
     refine ni fun K4 hK4 => ?_
     refine p9 ?_
     refine jw 21 ?_
     refine zQ ?_
     refine nj ?_
     dsimp only [FC.st]
     refine bv fun hlt => ?_
     dsimp only at hlt
     refine bj ?_
     refine aa rfl (ar rfl (by constructor)) ?_
     refine aa rfl (bq rfl (by constructor)) ?_
     refine bf ?_
     dsimp only [St.put]
     show jc _ _ _ _ _ _ _
     refine uh ?_
     refine bj ?_
     try dsimp only [St.put]
     first | refine ae rfl (bw rfl rfl) ?_ | refine ae rfl (bh rfl rfl (Enc.len _)) ?_ | refine ae rfl (bh rfl rfl rfl) ?_ | refine ae rfl (ci rfl rfl zG trivial (by first | rfl | assumption)) ?_ | refine ae rfl (dc rfl rfl zG trivial (by rfl)) ?_ | refine ae rfl (dv rfl rfl zG trivial (by simp)) ?_ | refine ae rfl (bp rfl rfl zG trivial (dw (by assumption) rfl)) ?_ | refine ae rfl (bp rfl rfl zG trivial (by assumption)) ?_ | refine ae rfl (d8 rfl rfl zG trivial rfl (by assumption) rfl (by decide)) ?_ | refine ae rfl (dq rfl rfl zG (by rfl)) ?_
     try dsimp only [St.put]
     first | refine ae rfl (bw rfl rfl) ?_ | refine ae rfl (bh rfl rfl (Enc.len _)) ?_ | refine ae rfl (bh rfl rfl rfl) ?_ | refine ae rfl (ci rfl rfl zG trivial (by first | rfl | assumption)) ?_ | refine ae rfl (dc rfl rfl zG trivial (by rfl)) ?_ | refine ae rfl (dv rfl rfl zG trivial (by simp)) ?_ | refine ae rfl (bp rfl rfl zG trivial (dw (by assumption) rfl)) ?_ | refine ae rfl (bp rfl rfl zG trivial (by assumption)) ?_ | refine ae rfl (d8 rfl rfl zG trivial rfl (by assumption) rfl (by decide)) ?_ | refine ae rfl (dq rfl rfl zG (by rfl)) ?_
     refine aa rfl (ar rfl (by constructor)) ?_
     try dsimp only [St.put]
     refine ab rfl (az rfl rfl rfl (zo p (decide (k = 1)) i h hi) ?_)
     refine aa rfl (ar rfl (by constructor)) ?_
     refine aa rfl (gg rfl rfl rfl) ?_
     refine aa rfl (gg rfl rfl rfl) ?_
     refine aa rfl (bq rfl (by constructor)) ?_
     refine aa rfl (bq rfl (by constructor)) ?_
     refine bf ?_
     dsimp only [St.put]
     show jc _ _ _ _ _ _ _
     refine nk ok rfl ⟨rfl, rfl, zK, zN, zS, zK⟩ ?_
     refine ni fun K5 hK5 => ?_
     refine ubp ?_
     refine ow rfl (ar rfl (by constructor)) ?_
     refine ow rfl (ar rfl (by constructor)) ?_
     try dsimp only [St.put]
     refine ubs ok (by rw [hN]; exact hN2) rfl rfl rfl rfl (by rw [hcl]; show _ = [C.v (.int .i64 (co p (sdN p k + i)))]; rw [hL]; rfl) ?_
     refine ow rfl (ge rfl rfl) ?_
     refine ubt ?_
     dsimp only [St.put]
     refine hK5 _ _ ?_
     refine r9 rfl (fun h => by cases h) (fun _ => ?_)
     refine r8 ?_
     refine hK4 _ _ ?_
     refine jw 21 ?_
     refine zQ ?_
     refine xg ok rfl ?_
     dsimp only [FC.st]
     refine bv fun hlt => ?_
     dsimp only at hlt
     refine bj ?_
     first | refine aa rfl (ct rfl rfl rfl (by omega)) ?_ | refine aa rfl (jf rfl rfl rfl) ?_
     refine aa rfl (ar rfl (by constructor)) ?_
     refine bf ?_
     dsimp only [St.put]
     refine ⟨⟨rfl, rfl, zK, zN, zS, zK⟩, ?_⟩
     exact ⟨i + 1, by omega, by omega, rfl, ⟨⟨rfl, rfl⟩, zF, zB, zN, zX⟩⟩
    ·replace hc := of_decide_eq_false hc
     obtain rfl : i = (di p (decide (k = 1))).length := by omega
     refine xi ?_
     refine hK2 _ _ ?_
     refine jw 10 ?_
     refine zQ ?_
     refine xg ok rfl ?_
     dsimp only [FC.st]
     refine bv fun hlt => ?_
     dsimp only at hlt
     refine bj ?_
     first | refine aa rfl (ct rfl rfl rfl (by omega)) ?_ | refine aa rfl (jf rfl rfl rfl) ?_
     refine aa rfl (ar rfl (by constructor)) ?_
     refine bf ?_
     dsimp only [St.put]
     refine ⟨⟨rfl, rfl, zK, zN, zS, zK⟩, ?_⟩
     exact ⟨k + 1, by omega, by omega, (vu hk).symm, ⟨⟨rfl, rfl⟩, zF, zB, zN, zX⟩⟩
  ·replace hc := of_decide_eq_false hc
   obtain rfl : k = 2 := by omega
   refine xi ?_
   exact ⟨.inl rfl, rfl⟩
end Go.Proofs.YtgffhbbcpgdjjaaDoor
namespace Go.AB
open Go Go.RowKit
open Go.AB.Enc (cells)
open Go.PB (aq ah PlaceD av ax aw bg am af cb ba cr c4)
theorem n3 {α : Type} (d v : α) : atE 0 d v = v := rfl
theorem j9 {α : Type} {e : Int} (h : e ≠ 0) (d v : α) : atE e d v = d := by unfold atE; rw [decide_eq_false h]; rfl
theorem uba {p : af} {e : Int} (h : e ≠ 0) : ey p e = e := by unfold ey; rw [decide_eq_false h]; rfl
theorem ry (p : af) : ey p 0 = bif ix p then 0 else 8 := rfl
end Go.AB
namespace Go.Proofs.YtgffhbbcpgdjjaaDoor
set_option maxRecDepth 10000
open Go.RowKit Go.AB
open Go.AB.Enc (cells)
open Go.PB (aq ah PlaceD av ax aw bg am af cb ba cr c4)
end Go.Proofs.YtgffhbbcpgdjjaaDoor
namespace Go.AB
open Go Go.RowKit
open Go.AB.Enc (cells)
open Go.PB (aq ah PlaceD av ax aw bg am af cb ba cr c4)
instance : FlatV ba := ⟨fun x => [.int .i64 x.lo, .int .i64 x.hi], fun _ => rfl⟩
theorem ui3 {p : af} {n : Int} {j : Nat} {x : am} (h0 : dx p n = 0) (hpo : me p n = x) (hn : n = (j : Int)) (hk : (dn p.text x).length ≠ 0) : kf p n = 0 ∧ mp p n = xe x (dn p.text x).length := by
 have hE : kf p n = 0 := by unfold kf; rw [h0, hpo, decide_eq_false hk]; rfl
 exact ⟨hE, by unfold mp; rw [hE, hpo]; rfl⟩
end Go.AB
namespace Go.Proofs.YtgffhbbcpgdjjaaDoor
set_option maxRecDepth 10000
open Go.RowKit Go.AB
open Go.AB.Enc (cells)
open Go.PB (aq ah PlaceD av ax aw bg am af cb ba cr c4)
theorem uep : Tryd.prog.underlying 47 = some (.struct (Tryd.prog.fieldsOf 47)) := by kernel_rfl
theorem ufs : Tryd.prog.stoodInHeld 47 = false := by kernel_rfl
instance : EqT Tryd.prog 47 ba where
 guard op w x y xs ys := run_eqGuard_agg w op _ x y xs ys (by kernel_rfl)
 same w x y := by
  obtain ⟨a, b⟩ := x
  obtain ⟨a', b'⟩ := y
  simp only [FlatV.vals]
  rw [run_equalIn_agg _ _ _ _ _ uep ufs]
  by_cases h1 : a = a' <;> by_cases h2 : b = b' <;> simp [go_sem, h1, h2]
end Go.Proofs.YtgffhbbcpgdjjaaDoor
namespace Go.AB
open Go Go.RowKit
open Go.AB.Enc (cells)
open Go.PB (aq ah PlaceD av ax aw bg am af cb ba cr c4)
def pgC (p : af) (n : Int) : C := bif decide (dx p n = 0) then i2 p else .v (.pointer none)
theorem ugt (m : Nat) (p : af) (n : Int) : C.low m (pgC p n) := by
 unfold pgC
 cases decide (dx p n = 0)
 ·exact .v
 exact uai m p
theorem zl {p : af} {n : Int} (h : dx p n ≠ 0) : pgC p n = .v (.pointer none) := by unfold pgC; rw [decide_eq_false h]; rfl
theorem rg {p : af} {n : Int} (h : dx p n = 0) : pgC p n = .elem [lst p.text, lst p.firsts, lst p.seconds, lst p.pages, lst (p.pages.map fun x => (fb p.text x : Int)), lst (p.pages.map (ed p.text)), lst (p.pages.map (dn p.text))] := by
 unfold pgC
 rw [decide_eq_true h, cond_true, tn (o6 h).1]
theorem pu {α β : Type} {l : List α} {k : Nat} {x : α} (f : α → β) (h : l[k]? = some x) : (l.map f)[k]? = some (f x) := by rw [List.getElem?_map, h]; rfl
end Go.AB
namespace Go.Proofs.YtgffhbbcpgdjjaaDoor
set_option maxRecDepth 10000
open Go Go.RowKit Go.AB
open Go.AB.Enc (cells)
open Go.PB (aq ah PlaceD av ax aw bg am af cb ba cr c4)
theorem ufr (m : Nat) (b : Bool) : ∀ c ∈ l9 b, C.low m c := fun c hc => by
 simp only [List.mem_cons, List.not_mem_nil, or_false] at hc
 rcases hc with rfl | rfl | rfl <;> exact .fn (by simp)
theorem zy (n : Nat) (p : af) : PureS n eg Tryd.prog 12 [val p] (.v (.int .i64 (ck p))) := fun G nx hF hnx => by
 refine gk (G) (nx) Tryd.func12 rfl (.v) zN (fun hlt => zH) ?_
 simp only [Tryd.ntmps12, List.length_cons, List.length_nil, Nat.reduceAdd, Nat.reduceSub]
 refine bv fun hlt => ?_
 dsimp only at hlt
 refine yS fun _ K1 => ?_
 refine yR ?_
 try dsimp only [St.put]
 refine yB rfl rfl rfl ?_
 refine yA rfl rfl ?_
 refine yN ?_
 dsimp only [St.put]
 refine K1 _ ?_
 refine yS fun _ K2 => ?_
 refine yR ?_
 refine yE rfl rfl rfl ?_
 try dsimp only [St.put]
 refine ab rfl (cx rfl rfl rfl (lm n p) zG (by dsimp only [St.put]; omega) ?_)
 refine yM rfl rfl ?_
 refine yX rfl rfl rfl rfl ?_
 refine yX rfl rfl rfl rfl ?_
 refine yA rfl rfl ?_
 refine yA rfl rfl ?_
 refine yN ?_
 dsimp only [St.put]
 refine K2 _ ?_
 refine yS fun _ K3 => ?_
 refine yR ?_
 refine yM rfl rfl ?_
 refine yA rfl rfl ?_
 refine yN ?_
 dsimp only [St.put]
 refine K3 _ ?_
 refine ay ?_
 refine cg rfl (by constructor) zN zS ?_
 rfl
theorem pm (n : Nat) (p : af) (m : Int) : PureS n eg Tryd.prog 35 [val p, .v (.int .i64 m)] (.tup [pgC p m, .v (.int .i64 (dx p m))]) := fun G nx hF hnx => by
 refine gk (G) (nx) Tryd.func35 rfl (.tup (bn (ugt _ _ _) (bn .v cv))) zN (fun hlt => zH) ?_
 simp only [Tryd.ntmps35, List.length_cons, List.length_nil, Nat.reduceAdd, Nat.reduceSub]
 refine bv fun hlt => ?_
 dsimp only at hlt
 refine yS fun _ K1 => ?_
 refine yR ?_
 try dsimp only [St.put]
 refine yB rfl rfl rfl ?_
 refine yA rfl rfl ?_
 refine yA rfl rfl ?_
 refine yN ?_
 dsimp only [St.put]
 refine K1 _ ?_
 refine yS fun _ K2 => ?_
 refine yR ?_
 refine yE rfl rfl rfl ?_
 try dsimp only [St.put]
 refine ab rfl (cx rfl rfl rfl (lm n p) zG (by dsimp only [St.put]; omega) ?_)
 refine yM rfl rfl ?_
 refine yX rfl rfl rfl rfl ?_
 refine yX rfl rfl rfl rfl ?_
 refine yA rfl rfl ?_
 refine yA rfl rfl ?_
 refine yN ?_
 dsimp only [St.put]
 refine K2 _ ?_
 refine yS fun _ K3 => ?_
 refine yS fun _ K4 => ?_
 refine yR ?_
 refine yM rfl rfl ?_
 refine aa rfl (f8 rfl rfl rfl) ?_
 refine yN ?_
 dsimp only [St.put]
 refine K4 _ ?_
 refine bc rfl (fun hc => ?_) (fun hc => ?_)
 ·have h0 : ck p ≠ 0 := j2 hc
  have hE : dx p m = ck p := by simp [dx, h0]
  refine yS fun _ K5 => ?_
  refine yR ?_
  refine yM rfl rfl ?_
  refine yA rfl rfl ?_
  refine yA rfl rfl ?_
  refine yN ?_
  dsimp only [St.put]
  refine K5 _ ?_
  refine ay ?_
  refine jj rfl (by constructor) (by constructor) zN zS ?_ ?_
  ·rw [zl (by rw [hE]; exact h0)]
  rw [hE]
 have h0 : ck p = 0 := g6 hc
 have hnp := (lz h0).1.np
 refine bi ?_
 refine K3 _ ?_
 refine yS fun _ K6 => ?_
 refine yS fun _ K7 => ?_
 refine yR ?_
 refine yF rfl rfl rfl rfl ?_
 refine yL rfl rfl rfl ?_
 refine aa rfl (cc rfl rfl (List.length_map _)) ?_
 refine aa rfl (je rfl rfl rfl (by omega)) ?_
 refine yM rfl rfl ?_
 try dsimp only [St.put]
 refine ab rfl (cy rfl rfl rfl (by decide) (by decide) zR (by decide) ?_)
 try dsimp only [St.put]
 refine ab rfl (az rfl rfl rfl (ll _ _ [_]) ?_)
 refine aa rfl (ge rfl rfl) ?_
 refine yN ?_
 dsimp only [St.put]
 refine K7 _ ?_
 refine bc rfl (fun hc => ?_) (fun hc => ?_)
 ·have h1 : inB m 0 ((p.pages.length : Int) - 1) = false := by rw [fw] at hc; simpa using hc
  have hE : dx p m = 2 := by simp [dx, h0, h1]
  refine yS fun _ K8 => ?_
  refine yR ?_
  refine yA rfl rfl ?_
  refine yA rfl rfl ?_
  refine yN ?_
  dsimp only [St.put]
  refine K8 _ ?_
  refine ay ?_
  refine jj rfl (by constructor) (by constructor) zN zS ?_ ?_
  ·rw [zl (by rw [hE]; decide)]
  rw [hE]
 have h1 : inB m 0 ((p.pages.length : Int) - 1) = true := by rw [fw] at hc; simpa using hc
 have hE : dx p m = 0 := by simp [dx, h0, h1]
 refine bi ?_
 refine K6 _ ?_
 refine yS fun _ K9 => ?_
 refine yR ?_
 refine yM rfl rfl ?_
 refine yA rfl rfl ?_
 refine yA rfl rfl ?_
 refine yN ?_
 dsimp only [St.put]
 refine K9 _ ?_
 refine ay ?_
 refine jj rfl (by constructor) (by constructor) zN zS ?_ ?_
 ·unfold pgC; rw [decide_eq_true hE]; rfl
 rw [hE]
theorem wa (n : Nat) (p : af) (m : Int) : PureS n eg Tryd.prog 8 [val p, .v (.int .i64 m)] (.tup [.v (.int .i64 (n8 p m)), .v (.int .i64 (dx p m))]) := fun G nx hF hnx => by
 refine gk (G) (nx) Tryd.func8 rfl (.tup (bn .v (bn .v cv))) zN (fun hlt => zH) ?_
 simp only [Tryd.ntmps8, List.length_cons, List.length_nil, Nat.reduceAdd, Nat.reduceSub]
 refine bv fun hlt => ?_
 dsimp only at hlt
 refine yS fun _ K1 => ?_
 refine yR ?_
 try dsimp only [St.put]
 refine yB rfl rfl rfl ?_
 refine yA rfl rfl ?_
 refine yA rfl rfl ?_
 refine yN ?_
 dsimp only [St.put]
 refine K1 _ ?_
 refine yS fun _ K2 => ?_
 refine yR ?_
 refine yE rfl rfl rfl ?_
 refine yM rfl rfl ?_
 try dsimp only [St.put]
 refine ab rfl (cx rfl rfl rfl (pm n p m) zG (by dsimp only [St.put]; omega) ?_)
 refine yM rfl rfl ?_
 refine yX rfl rfl rfl rfl ?_
 refine yX rfl rfl rfl rfl ?_
 refine yA rfl rfl ?_
 refine yA rfl rfl ?_
 refine yN ?_
 dsimp only [St.put]
 refine K2 _ ?_
 refine yS fun _ K3 => ?_
 refine yS fun _ K4 => ?_
 refine yR ?_
 refine yM rfl rfl ?_
 refine aa rfl (f8 rfl rfl rfl) ?_
 refine yN ?_
 dsimp only [St.put]
 refine K4 _ ?_
 refine bc rfl (fun hc => ?_) (fun hc => ?_)
 ·have h0 : dx p m ≠ 0 := j2 hc
  have hV : n8 p m = 0 := by unfold n8; rw [j9 h0]
  refine yS fun _ K5 => ?_
  refine yR ?_
  refine yM rfl rfl ?_
  refine yA rfl rfl ?_
  refine yA rfl rfl ?_
  refine yN ?_
  dsimp only [St.put]
  refine K5 _ ?_
  refine ay ?_
  refine jj rfl (by constructor) (by constructor) zN zS ?_ ?_
  ·exact vi hV.symm
  rfl
 have h0 : dx p m = 0 := g6 hc
 obtain ⟨hc0, j, x, rfl, hx, hpo⟩ := o6 h0
 have hw := pu (fun x => (fb p.text x : Int)) hx
 have hV : n8 p (j : Int) = (fb p.text x : Int) := by unfold n8; rw [h0, hpo]; rfl
 rw [rg h0]
 refine bi ?_
 refine K3 _ ?_
 refine yS fun _ K6 => ?_
 refine yR ?_
 refine yM rfl rfl ?_
 refine aa rfl (j3 rfl rfl) ?_
 refine yF rfl rfl rfl rfl ?_
 refine yL rfl rfl rfl ?_
 refine yM rfl rfl ?_
 refine aa rfl (c5 rfl rfl rfl rfl (c7 (by assumption)) (Enc.len _)) ?_
 refine yL rfl rfl rfl ?_
 refine yA rfl rfl ?_
 refine yA rfl rfl ?_
 refine yN ?_
 dsimp only [St.put]
 refine K6 _ ?_
 refine ay ?_
 refine jj rfl (by constructor) (by constructor) zN zS ?_ ?_
 ·exact vi hV.symm
 exact vi h0.symm
theorem ug7 (n : Nat) (p : af) (m : Int) : PureS n eg Tryd.prog 10 [val p, .v (.int .i64 m)] (.tup [lst (qb p m), .v (.int .i64 (dx p m))]) := fun G nx hF hnx => by
 refine gk (G) (nx) Tryd.func10 rfl (.tup (bn (bd _ _) (bn .v cv))) zN (fun hlt => zH) ?_
 simp only [Tryd.ntmps10, List.length_cons, List.length_nil, Nat.reduceAdd, Nat.reduceSub]
 refine bv fun hlt => ?_
 dsimp only at hlt
 refine yS fun _ K1 => ?_
 refine yR ?_
 try dsimp only [St.put]
 refine yB rfl rfl rfl ?_
 refine yA rfl rfl ?_
 refine yA rfl rfl ?_
 refine yN ?_
 dsimp only [St.put]
 refine K1 _ ?_
 refine yS fun _ K2 => ?_
 refine yR ?_
 refine yE rfl rfl rfl ?_
 refine yM rfl rfl ?_
 try dsimp only [St.put]
 refine ab rfl (cx rfl rfl rfl (pm n p m) zG (by dsimp only [St.put]; omega) ?_)
 refine yM rfl rfl ?_
 refine yX rfl rfl rfl rfl ?_
 refine yX rfl rfl rfl rfl ?_
 refine yA rfl rfl ?_
 refine yA rfl rfl ?_
 refine yN ?_
 dsimp only [St.put]
 refine K2 _ ?_
 refine yS fun _ K3 => ?_
 refine yS fun _ K4 => ?_
 refine yR ?_
 refine yM rfl rfl ?_
 refine aa rfl (f8 rfl rfl rfl) ?_
 refine yN ?_
 dsimp only [St.put]
 refine K4 _ ?_
 refine bc rfl (fun hc => ?_) (fun hc => ?_)
 ·have h0 : dx p m ≠ 0 := j2 hc
  have hV : qb p m = [] := by unfold qb; rw [j9 h0]
  refine yS fun _ K5 => ?_
  refine yR ?_
  refine yM rfl rfl ?_
  refine yA rfl rfl ?_
  refine yA rfl rfl ?_
  refine yN ?_
  dsimp only [St.put]
  refine K5 _ ?_
  refine ay ?_
  refine gw rfl (eb (by constructor)) (eb (by constructor)) zN zS ?_ ?_
  ·rw [hV]; exact zW
  exact zW
 have h0 : dx p m = 0 := g6 hc
 obtain ⟨hc0, j, x, rfl, hx, hpo⟩ := o6 h0
 have hw := pu (ed p.text) hx
 have hV : qb p (j : Int) = ed p.text x := by unfold qb; rw [h0, hpo]; rfl
 rw [rg h0]
 refine bi ?_
 refine K3 _ ?_
 refine yS fun _ K6 => ?_
 refine yR ?_
 refine yM rfl rfl ?_
 refine aa rfl (j3 rfl rfl) ?_
 refine yF rfl rfl rfl rfl ?_
 refine yL rfl rfl rfl ?_
 refine yM rfl rfl ?_
 refine aa rfl (c5 rfl rfl rfl rfl (c7 (by assumption)) (Enc.len _)) ?_
 refine yL rfl rfl rfl ?_
 refine yA rfl rfl ?_
 refine yA rfl rfl ?_
 refine yN ?_
 dsimp only [St.put]
 refine K6 _ ?_
 refine ay ?_
 refine gw rfl (eb (by constructor)) (eb (by constructor)) zN zS ?_ ?_
 ·rw [hV]; exact zW
 rw [h0]; exact zW
theorem ug9 (n : Nat) (p : af) (m : Int) : PureS n eg Tryd.prog 15 [val p, .v (.int .i64 m)] (.tup [lst (qg p m), .v (.int .i64 (dx p m))]) := fun G nx hF hnx => by
 refine gk (G) (nx) Tryd.func15 rfl (.tup (bn (bd _ _) (bn .v cv))) zN (fun hlt => zH) ?_
 simp only [Tryd.ntmps15, List.length_cons, List.length_nil, Nat.reduceAdd, Nat.reduceSub]
 refine bv fun hlt => ?_
 dsimp only at hlt
 refine yS fun _ K1 => ?_
 refine yR ?_
 try dsimp only [St.put]
 refine yB rfl rfl rfl ?_
 refine yA rfl rfl ?_
 refine yA rfl rfl ?_
 refine yN ?_
 dsimp only [St.put]
 refine K1 _ ?_
 refine yS fun _ K2 => ?_
 refine yR ?_
 refine yE rfl rfl rfl ?_
 refine yM rfl rfl ?_
 try dsimp only [St.put]
 refine ab rfl (cx rfl rfl rfl (pm n p m) zG (by dsimp only [St.put]; omega) ?_)
 refine yM rfl rfl ?_
 refine yX rfl rfl rfl rfl ?_
 refine yX rfl rfl rfl rfl ?_
 refine yA rfl rfl ?_
 refine yA rfl rfl ?_
 refine yN ?_
 dsimp only [St.put]
 refine K2 _ ?_
 refine yS fun _ K3 => ?_
 refine yS fun _ K4 => ?_
 refine yR ?_
 refine yM rfl rfl ?_
 refine aa rfl (f8 rfl rfl rfl) ?_
 refine yN ?_
 dsimp only [St.put]
 refine K4 _ ?_
 refine bc rfl (fun hc => ?_) (fun hc => ?_)
 ·have h0 : dx p m ≠ 0 := j2 hc
  have hV : qg p m = [] := by unfold qg; rw [j9 h0]
  refine yS fun _ K5 => ?_
  refine yR ?_
  refine yM rfl rfl ?_
  refine yA rfl rfl ?_
  refine yA rfl rfl ?_
  refine yN ?_
  dsimp only [St.put]
  refine K5 _ ?_
  refine ay ?_
  refine gw rfl (eb (by constructor)) (eb (by constructor)) zN zS ?_ ?_
  ·rw [hV]; exact zW
  exact zW
 have h0 : dx p m = 0 := g6 hc
 obtain ⟨hc0, j, x, rfl, hx, hpo⟩ := o6 h0
 have hw := pu (dn p.text) hx
 have hV : qg p (j : Int) = dn p.text x := by unfold qg; rw [h0, hpo]; rfl
 rw [rg h0]
 refine bi ?_
 refine K3 _ ?_
 refine yS fun _ K6 => ?_
 refine yR ?_
 refine yM rfl rfl ?_
 refine aa rfl (j3 rfl rfl) ?_
 refine yF rfl rfl rfl rfl ?_
 refine yL rfl rfl rfl ?_
 refine yM rfl rfl ?_
 refine aa rfl (c5 rfl rfl rfl rfl (c7 (by assumption)) (Enc.len _)) ?_
 refine yL rfl rfl rfl ?_
 refine yA rfl rfl ?_
 refine yA rfl rfl ?_
 refine yN ?_
 dsimp only [St.put]
 refine K6 _ ?_
 refine ay ?_
 refine gw rfl (eb (by constructor)) (eb (by constructor)) zN zS ?_ ?_
 ·rw [hV]; exact zW
 rw [h0]; exact zW
theorem zz (n : Nat) (p : af) (b : Bool) (m : Int) : PureS n eg Tryd.prog 17 [val p, .v (.bool b), .v (.int .i64 m)] (.tup [.v (.int .i64 (l0 p b m)), .v (.int .i64 (i5 p b m))]) := fun G nx hF hnx => by
 refine gk (G) (nx) Tryd.func17 rfl (.tup (bn .v (bn .v cv))) zN (fun hlt => zH) ?_
 simp only [Tryd.ntmps17, List.length_cons, List.length_nil, Nat.reduceAdd, Nat.reduceSub]
 refine bv fun hlt => ?_
 dsimp only at hlt
 refine yS fun _ K1 => ?_
 refine yR ?_
 try dsimp only [St.put]
 refine yB rfl rfl rfl ?_
 refine yA rfl rfl ?_
 refine yA rfl rfl ?_
 refine yN ?_
 dsimp only [St.put]
 refine K1 _ ?_
 refine yS fun _ K2 => ?_
 refine yR ?_
 refine yE rfl rfl rfl ?_
 try dsimp only [St.put]
 refine ab rfl (cx rfl rfl rfl (lm n p) zG (by dsimp only [St.put]; omega) ?_)
 refine yM rfl rfl ?_
 refine yX rfl rfl rfl rfl ?_
 refine yX rfl rfl rfl rfl ?_
 refine yA rfl rfl ?_
 refine yA rfl rfl ?_
 refine yN ?_
 dsimp only [St.put]
 refine K2 _ ?_
 refine yS fun _ K3 => ?_
 refine yS fun _ K4 => ?_
 refine yR ?_
 refine yM rfl rfl ?_
 refine aa rfl (f8 rfl rfl rfl) ?_
 refine yN ?_
 dsimp only [St.put]
 refine K4 _ ?_
 refine bc rfl (fun hc => ?_) (fun hc => ?_)
 ·have h0 : ck p ≠ 0 := j2 hc
  have hE : i5 p b m = ck p := by simp [i5, h0]
  refine yS fun _ K5 => ?_
  refine yR ?_
  refine yM rfl rfl ?_
  refine yA rfl rfl ?_
  refine yA rfl rfl ?_
  refine yN ?_
  dsimp only [St.put]
  refine K5 _ ?_
  refine ay ?_
  refine jj rfl (by constructor) (by constructor) zN zS ?_ ?_
  ·exact vi (by simp [l0, atE, hE, h0])
  exact vi hE.symm
 have h0 : ck p = 0 := g6 hc
 obtain ⟨hok, _⟩ := lz h0
 have hn1 := hok.nf
 have hn2 := hok.ns
 have hsl : (di p b).length ≤ 3 := by
  cases b
  ·exact hn1
  exact hn2
 rw [tn h0]
 refine bi ?_
 refine K3 _ ?_
 refine yS fun _ K6 => ?_
 refine yR ?_
 try dsimp only [St.put]
 refine aa rfl (uat (j := n) (k := 0) (m := 2) (sz := 3) rfl rfl zG rfl rfl (by decide) rfl) ?_
 try dsimp only [St.put]
 refine ae rfl (c := .agg (l9 false)) (kn (cs := sidL) rfl rfl (show 3 ≤ 6 by decide)) ?_
 try dsimp only [St.put]
 refine ab rfl (dg rfl ?_)
 try dsimp only [St.put]
 refine ab rfl (cn rfl rfl rfl zG rfl rfl (by rfl) ?_)
 refine yN ?_
 dsimp only [St.put]
 refine K6 _ ?_
 refine du 13 ?_
 refine zQ ?_
 refine n2 (X := Nat) (fun wv => True) (fun wv => []) (fun wv G' => aj G nx (.box wv (l9 b))) rfl ?_ ?_ ?_ ?_
 ·rintro wv hI
  exact zL
 ·rintro wv hI
  exact (by (repeat' (refine jt ?_ (by (try dsimp only); omega) ?_)); all_goals (first | exact ju zS | (repeat' (first | exact trivial | refine ⟨?_, ?_⟩ | exact .v | exact .any | refine .elem ?_ | exact bd _ _ | exact e8 _ _ | exact dz _ _ | exact fe _ (by (try dsimp only); omega) | exact .box (by (try dsimp only); omega) | exact em | exact cv | exact ufr _ _ | refine fg ?_ ?_ | exact .arr (by (try dsimp only); omega) | exact .own (by (try dsimp only); omega) | exact .map (by (try dsimp only); omega) | exact ec _ | refine bn ?_ ?_ | exact bd _ _))))
 ·refine yS fun _ K8 => ?_
  refine yR ?_
  refine yM rfl rfl ?_
  refine yN ?_
  dsimp only [St.put]
  refine K8 _ ?_
  refine bc rfl (fun hc => ?_) (fun hc => ?_)
  ·obtain rfl : b = true := hc
   have hyes : True := trivial
   refine yR ?_
   try dsimp only [St.put]
   refine aa rfl (uat (j := n) (k := 1) (m := 2) (sz := 3) rfl rfl zG rfl rfl (by decide) rfl) ?_
   try dsimp only [St.put]
   refine ae rfl (bh rfl rfl rfl) ?_
   try dsimp only [St.put]
   refine ab rfl (cn rfl rfl rfl zG rfl rfl (by rfl) ?_)
   refine yN ?_
   dsimp only [St.put]
   first
   | exact ⟨1 + 1, hyes, ⟨⟨rfl, rfl⟩, zF, zB, zN, zX⟩⟩
   | exact ⟨1, hno, ⟨⟨rfl, rfl⟩, zF, zB, zN, zX⟩⟩
  obtain rfl : b = false := hc
  have hno : True := trivial
  refine bi ?_
  first
  | exact ⟨1 + 1, hyes, ⟨⟨rfl, rfl⟩, zF, zB, zN, zX⟩⟩
  | exact ⟨1, hno, ⟨⟨rfl, rfl⟩, zF, zB, zN, zX⟩⟩
 rintro wv hI
 dsimp only at hI ⊢
 refine yS fun _ K9 => ?_
 refine yS fun _ K10 => ?_
 refine yR ?_
 refine aa rfl (cm rfl rfl) ?_
 try dsimp only [St.put]
 refine ae rfl (ci rfl rfl zG trivial (by first | rfl | assumption)) ?_
 refine yE rfl rfl rfl ?_
 try dsimp only [St.put]
 refine ab rfl (az rfl rfl rfl (m7 b p) ?_)
 refine aa rfl (cc rfl rfl (List.length_map _)) ?_
 refine aa rfl (je rfl rfl rfl (by omega)) ?_
 refine yM rfl rfl ?_
 try dsimp only [St.put]
 refine ab rfl (cy rfl rfl rfl (by decide) (by decide) zR (by decide) ?_)
 try dsimp only [St.put]
 refine ab rfl (az rfl rfl rfl (ll _ _ [_]) ?_)
 refine aa rfl (ge rfl rfl) ?_
 refine yN ?_
 dsimp only [St.put]
 refine K10 _ ?_
 refine bc rfl (fun hc => ?_) (fun hc => ?_)
 ·have h1 : inB m 0 (((di p b).length : Int) - 1) = false := by rw [fw] at hc; simpa using hc
  have hE : i5 p b m = 2 := by simp [i5, h0, h1]
  refine yS fun _ K11 => ?_
  refine yR ?_
  refine yA rfl rfl ?_
  refine yA rfl rfl ?_
  refine yN ?_
  dsimp only [St.put]
  refine K11 _ ?_
  refine ay ?_
  refine jj rfl (by constructor) (by constructor) zN zS ?_ ?_
  ·exact vi (by simp [l0, atE, hE])
  exact vi hE.symm
 have h1 : inB m 0 (((di p b).length : Int) - 1) = true := by rw [fw] at hc; simpa using hc
 have hE : i5 p b m = 0 := by simp [i5, h0, h1]
 obtain ⟨j, hj⟩ : ∃ j : Nat, m = (j : Int) := ⟨m.toNat, by have := inB_true.1 h1; omega⟩
 subst hj
 have hjl : j < (di p b).length := by have := inB_true.1 h1; omega
 have hV : l0 p b (j : Int) = mu p b j := by simp [l0, atE, hE]
 refine bi ?_
 refine K9 _ ?_
 refine yS fun _ K12 => ?_
 refine yR ?_
 refine yM rfl rfl ?_
 try dsimp only [St.put]
 refine ae rfl (dc rfl rfl zG trivial (by rfl)) ?_
 refine yM rfl rfl ?_
 try dsimp only [St.put]
 refine ab rfl (az rfl rfl rfl (zo p b j hok hjl) ?_)
 refine yM rfl rfl ?_
 refine yX rfl rfl rfl rfl ?_
 refine yX rfl rfl rfl rfl ?_
 refine yA rfl rfl ?_
 refine yA rfl rfl ?_
 refine yN ?_
 dsimp only [St.put]
 refine K12 _ ?_
 refine yS fun _ K13 => ?_
 refine yR ?_
 refine yM rfl rfl ?_
 refine yA rfl rfl ?_
 refine yA rfl rfl ?_
 refine yN ?_
 dsimp only [St.put]
 refine K13 _ ?_
 refine ay ?_
 refine jj rfl (by constructor) (by constructor) zN zS ?_ ?_
 ·exact vi hV.symm
 exact vi hE.symm
theorem we (n : Nat) (p : af) (m : Int) : PureS n eg Tryd.prog 19 [val p, .v (.int .i64 m)] (.tup [val (mp p m), .v (.int .i64 (kf p m))]) := fun G nx hF hnx => by
 refine gk (G) (nx) Tryd.func19 rfl (.tup (bn (dz _ _) (bn .v cv))) zN (fun hlt => zH) ?_
 simp only [Tryd.ntmps19, List.length_cons, List.length_nil, Nat.reduceAdd, Nat.reduceSub]
 refine bv fun hlt => ?_
 dsimp only at hlt
 refine yS fun _ K1 => ?_
 refine yR ?_
 try dsimp only [St.put]
 refine yB rfl rfl rfl ?_
 try dsimp only [St.put]
 refine ab rfl (dg rfl ?_)
 refine yA rfl rfl ?_
 refine yN ?_
 dsimp only [St.put]
 refine K1 _ ?_
 refine yS fun _ K2 => ?_
 refine yR ?_
 refine yE rfl rfl rfl ?_
 refine yM rfl rfl ?_
 try dsimp only [St.put]
 refine ab rfl (cx rfl rfl rfl (pm n p m) zG (by dsimp only [St.put]; omega) ?_)
 refine yM rfl rfl ?_
 refine yX rfl rfl rfl rfl ?_
 refine yX rfl rfl rfl rfl ?_
 refine yA rfl rfl ?_
 refine yA rfl rfl ?_
 refine yN ?_
 dsimp only [St.put]
 refine K2 _ ?_
 refine yS fun _ K3 => ?_
 refine yS fun _ K4 => ?_
 refine yR ?_
 refine yM rfl rfl ?_
 refine aa rfl (f8 rfl rfl rfl) ?_
 refine yN ?_
 dsimp only [St.put]
 refine K4 _ ?_
 refine bc rfl (fun hc => ?_) (fun hc => ?_)
 ·have h0 : dx p m ≠ 0 := j2 hc
  have hE : kf p m = dx p m := by unfold kf; rw [decide_eq_false h0]; rfl
  have hV : mp p m = ⟨0, 0⟩ := by unfold mp; rw [hE, j9 h0]
  refine yS fun _ K5 => ?_
  refine yR ?_
  refine aa rfl (fh rfl rfl) ?_
  refine yM rfl rfl ?_
  try dsimp only [St.put]
  refine ab rfl (cn rfl rfl rfl zG rfl rfl (by rfl) ?_)
  refine yA rfl rfl ?_
  refine yN ?_
  dsimp only [St.put]
  refine K5 _ ?_
  refine ay ?_
  refine gw rfl (i6 rfl zG (by rfl) zC rfl) (eb (by constructor)) zN zS ?_ ?_
  ·rw [hV]; exact zW
  rw [hE]; exact zW
 have h0 : dx p m = 0 := g6 hc
 obtain ⟨hc0, j, x, rfl, hx, hpo⟩ := o6 h0
 obtain ⟨hok, _⟩ := lz hc0
 have hp := pageB_true.1 (hok.page j x hx)
 have hal := o7 hok.text
 have hfl := nl hp.found
 have hwl := nl hp.well
 have hbl := uc2 p.text x
 have hw := pu (dn p.text) hx
 rw [rg h0]
 refine bi ?_
 refine K3 _ ?_
 refine yS fun _ K6 => ?_
 refine yR ?_
 refine yM rfl rfl ?_
 refine aa rfl (j3 rfl rfl) ?_
 refine yF rfl rfl rfl rfl ?_
 refine yL rfl rfl rfl ?_
 refine yM rfl rfl ?_
 refine aa rfl (c5 rfl rfl rfl rfl (c7 (by assumption)) (Enc.len _)) ?_
 refine yL rfl rfl rfl ?_
 refine aa rfl (cc rfl rfl (List.length_map _)) ?_
 refine yA rfl rfl ?_
 refine yN ?_
 dsimp only [St.put]
 refine K6 _ ?_
 refine yS fun _ K7 => ?_
 refine yS fun _ K8 => ?_
 refine yR ?_
 refine yM rfl rfl ?_
 refine aa rfl (eh rfl rfl rfl) ?_
 refine yN ?_
 dsimp only [St.put]
 refine K8 _ ?_
 refine bc rfl (fun hc => ?_) (fun hc => ?_)
 ·have hk : (dn p.text x).length = 0 := by have := of_decide_eq_true hc; omega
  have hE : kf p (j : Int) = 6 := by unfold kf; rw [h0, hpo, decide_eq_true hk]; rfl
  have hV : mp p (j : Int) = ⟨0, 0⟩ := by unfold mp; rw [hE, j9 (by decide)]
  refine yS fun _ K9 => ?_
  refine yR ?_
  refine aa rfl (fh rfl rfl) ?_
  try dsimp only [St.put]
  refine ab rfl (cn rfl rfl rfl zG rfl rfl (by rfl) ?_)
  refine yA rfl rfl ?_
  refine yN ?_
  dsimp only [St.put]
  refine K9 _ ?_
  refine ay ?_
  refine gw rfl (i6 rfl zG (by rfl) zC rfl) (eb (by constructor)) zN zS ?_ ?_
  ·rw [hV]; exact zW
  rw [hE]; exact zW
 have hk : ¬ (dn p.text x).length = 0 := by have := of_decide_eq_false hc; omega
 obtain ⟨hE, hV⟩ := ui3 h0 hpo rfl hk
 have hfw : x.found.length * x.well.length ≤ 600 * 600 := Nat.mul_le_mul (by omega) (by omega)
 have hfc := Int.natCast_mul x.found.length x.well.length
 have hjl := (List.getElem?_eq_some_iff.1 hx).1
 refine bi ?_
 refine K7 _ ?_
 refine yS fun _ K10 => ?_
 refine ia [(0, none), (1, none), (2, none), (3, none), (4, none), (5, none), (6, none), (7, none), (8, none), (9, none), (10, none), (11, none), (12, none), (13, none), (14, none), (15, none)] (fun i => [].contains i) (fun i => [].contains i) (fun i => [0, 2, 3, 4, 6, 7, 9, 10, 11, 13, 14, 15].contains i) [] (by kernel_rfl) (by kernel_rfl) ?_
 refine ai rfl rfl rfl rfl (c6 rfl rfl rfl) ?_
 try dsimp only [St.put]
 refine ak rfl rfl rfl rfl (bw rfl rfl) ?_
 refine xM rfl rfl rfl rfl rfl ?_
 try dsimp only [St.put]
 refine ai rfl rfl rfl rfl (c5 rfl rfl rfl rfl (c7 (by assumption)) (Enc.len _)) ?_
 refine ai rfl rfl rfl rfl (c6 rfl rfl rfl) ?_
 try dsimp only [St.put]
 refine ak rfl rfl rfl rfl (bw rfl rfl) ?_
 refine ai rfl rfl rfl rfl (cc rfl rfl (List.length_map _)) ?_
 refine ai rfl rfl rfl rfl (c6 rfl rfl rfl) ?_
 try dsimp only [St.put]
 refine ak rfl rfl rfl rfl (bw rfl rfl) ?_
 refine xM rfl rfl rfl rfl rfl ?_
 try dsimp only [St.put]
 refine ai rfl rfl rfl rfl (c5 rfl rfl rfl rfl (c7 (by assumption)) (Enc.len _)) ?_
 refine ai rfl rfl rfl rfl (c6 rfl rfl rfl) ?_
 try dsimp only [St.put]
 refine ak rfl rfl rfl rfl (bw rfl rfl) ?_
 refine ai rfl rfl rfl rfl (cc rfl rfl (List.length_map _)) ?_
 refine ai rfl rfl rfl rfl (wy rfl rfl rfl (by omega)) ?_
 refine ai rfl rfl rfl rfl (bq rfl (by constructor)) ?_
 refine fm ?_
 dsimp only [St.put]
 rw [show (x.found.length : Int) * (x.well.length : Int) = ((x.found.length * x.well.length : Nat) : Int) from hfc.symm]
 obtain ⟨M, hM⟩ : ∃ M, x.found.length * x.well.length = M := ⟨_, rfl⟩
 obtain ⟨K, hK⟩ : ∃ K, (dn p.text x).length = K := ⟨_, rfl⟩
 have hV2 : mp p (j : Int) = ⟨(M : Int) / (K : Int), ((M : Int) + (K : Int) - 1) / (K : Int)⟩ := by
  rw [hV]
  unfold xe
  rw [hM, hK, Int.natCast_ediv, Int.natCast_ediv, show ((M + K - 1 : Nat) : Int) = (M : Int) + (K : Int) - 1 by omega]
 rw [hM] at hfw
 rw [hK] at hk hbl
 rw [hM, hK]
 refine K10 _ ?_
 refine yS fun _ K11 => ?_
 refine ia [(0, none), (1, none), (2, none), (3, none), (4, none), (5, none), (6, none), (7, none), (8, none), (9, none), (10, none), (11, none)] (fun i => [10].contains i) (fun i => [10].contains i) (fun i => [0, 1, 2, 3, 4, 5, 6, 7, 8, 9, 11].contains i) [] (by kernel_rfl) (by kernel_rfl) ?_
 refine xM rfl rfl rfl rfl rfl ?_
 refine xM rfl rfl rfl rfl rfl ?_
 refine ai rfl rfl rfl rfl (wx rfl rfl rfl (by omega) (by omega)) ?_
 refine xM rfl rfl rfl rfl rfl ?_
 refine xM rfl rfl rfl rfl rfl ?_
 refine ai rfl rfl rfl rfl (ct rfl rfl rfl (by omega)) ?_
 refine ai rfl rfl rfl rfl (je rfl rfl rfl (by omega)) ?_
 refine xM rfl rfl rfl rfl rfl ?_
 refine ai rfl rfl rfl rfl (wx rfl rfl rfl (by omega) (by omega)) ?_
 refine ai rfl rfl rfl rfl (fh rfl rfl) ?_
 refine jb ?_
 try dsimp only [St.put]
 refine gz rfl rfl rfl rfl (cn rfl rfl rfl zG rfl rfl (by rfl) ?_)
 refine ef rfl rfl rfl rfl (bq rfl (by constructor)) ?_
 refine ja ?_
 dsimp only [St.put]
 refine K11 _ ?_
 refine ay ?_
 refine gw rfl (i6 rfl zG (by rfl) zC rfl) (eb (by constructor)) zN zS ?_ ?_
 ·rw [hV2]; exact zW
 rw [hE]; exact zW
end Go.Proofs.YtgffhbbcpgdjjaaDoor
namespace Go.AB
open Go Go.RowKit
open Go.AB.Enc (cells)
open Go.PB (aq ah PlaceD av ax aw bg am af cb ba cr c4)
/-- who has read a page, of some sides -/
def m9 (p : af) (x : am) : Nat → List Int
 | 0 => []
 | k + 1 => m9 p x k ++ bif decide (0 ≤ eu (decide (k = 1)) x) then [(sdN p k : Int) + eu (decide (k = 1)) x] else []
theorem ugo (p : af) (x : am) : m9 p x 2 = dd p x := by
 show ([] ++ bif decide (0 ≤ x.fst) then [((0 : Nat) : Int) + x.fst] else []) ++ (bif decide (0 ≤ x.snd) then [(p.firsts.length : Int) + x.snd] else []) = dd p x
 rw [List.nil_append, show ((0 : Nat) : Int) + x.fst = x.fst by omega]
 rfl
theorem zg (p : af) (x : am) : ∀ k, (m9 p x k).length ≤ k
 | 0 => Nat.le_refl _
 | k + 1 => by
  have := zg p x k
  simp only [m9, List.length_append]
  cases decide (0 ≤ eu (decide (k = 1)) x)
  ·rw [cond_false]; simp; omega
  rw [cond_true]; simp; omega
theorem uh8 {α β : Type} {l : List α} {j : Nat} {x : α} (f : α → β) (h : l[j]? = some x) : (l.take (j + 1)).map f = (l.take j).map f ++ [f x] := by rw [List.take_add_one, h, Option.toList_some, List.map_append]; rfl
theorem uin {p : af} : (!(ce (bu p) (co p)).any fun n => decide (n < 0)) = ix p := by
 rw [Bool.eq_iff_iff, Bool.not_eq_true', ← Bool.not_eq_true, List.any_eq_true]
 unfold ix ce
 rw [List.all_eq_true]
 constructor
 ·intro h i hi
  refine decide_eq_true ?_
  rcases Int.lt_or_le (co p i) 0 with q | q
  ·exact absurd ⟨_, List.mem_map.2 ⟨i, hi, rfl⟩, decide_eq_true q⟩ h
  exact q
 rintro h ⟨z, hz, hl⟩
 obtain ⟨i, hi, rfl⟩ := List.mem_map.1 hz
 have := of_decide_eq_true (h i hi)
 have := of_decide_eq_true hl
 omega
end Go.AB
namespace Go.Proofs.YtgffhbbcpgdjjaaDoor
set_option maxRecDepth 10000
open Go Go.RowKit Go.AB
open Go.AB.Enc (cells)
open Go.PB (aq ah PlaceD av ax aw bg am af cb ba cr c4)
theorem ugb (z : Int) : Pure Tryd.prog 99 [.v (.int .i64 z)] (.v (.bool (decide (z < 0)))) := by
 refine dr Tryd.func99 rfl (fun m => .v) fun G nx => ?_
 simp only [Tryd.ntmps99, List.length_cons, List.length_nil, Nat.reduceAdd, Nat.reduceSub]
 refine bv fun hlt => ?_
 dsimp only at hlt
 refine yS fun _ K1 => ?_
 refine yR ?_
 refine yA rfl rfl ?_
 refine yN ?_
 dsimp only [St.put]
 refine K1 _ ?_
 refine yS fun _ K2 => ?_
 refine yR ?_
 refine yM rfl rfl ?_
 refine aa rfl (dp rfl rfl rfl) ?_
 refine yA rfl rfl ?_
 refine yN ?_
 dsimp only [St.put]
 refine K2 _ ?_
 refine ay ?_
 refine cg rfl (by constructor) zN zS ?_
 rfl
theorem uik (p : af) : Pure Tryd.prog 98 [.elem (jo p)] (.fn (.func 110) [.elem [.elem (jo p)]]) := by
 refine dr Tryd.func98 rfl (fun m => (.fn (bn (.elem (bn (.elem (bn (bd _ _) (bn (bd _ _) (bn (bd _ _) (bn (bd _ _) (bn (bd _ _) (bn (bd _ _) (bn (bd _ _) cv)))))))) cv)) cv))) fun G nx => ?_
 simp only [Tryd.ntmps98, List.length_cons, List.length_nil, Nat.reduceAdd, Nat.reduceSub]
 refine bv fun hlt => ?_
 dsimp only at hlt
 refine yS fun _ K1 => ?_
 refine yR ?_
 try dsimp only [St.put]
 refine yB rfl rfl rfl ?_
 refine yA rfl rfl ?_
 refine yN ?_
 dsimp only [St.put]
 refine K1 _ ?_
 refine yS fun _ K2 => ?_
 refine yR ?_
 refine aa rfl (oq rfl rfl) ?_
 refine yA rfl rfl ?_
 refine yN ?_
 dsimp only [St.put]
 refine K2 _ ?_
 refine ay ?_
 refine cg rfl (by constructor) zN zS ?_
 rfl
set_option maxHeartbeats 2000000 in
theorem ug3 (n : Nat) (p : af) (h : fk p) : PureS n eg Tryd.prog 78 [.elem (jo p)] (.tup [val (fq p (co p) (dh p)), .v (.bool (ix p))]) := fun G nx hF hnx => by
 refine gk (G) (nx) Tryd.func78 rfl (.tup (bn (dz _ _) (bn .v cv))) zN (fun hlt => zH) ?_
 simp only [Tryd.ntmps78, List.length_cons, List.length_nil, Nat.reduceAdd, Nat.reduceSub]
 refine bv fun hlt => ?_
 dsimp only at hlt
 have hn1 := h.nf
 have hn2 := h.ns
 have hnp := h.np
 have hnr : bu p = p.firsts.length + p.seconds.length := rfl
 have hal := o7 h.text
 refine yS fun _ K1 => ?_
 refine yR ?_
 try dsimp only [St.put]
 refine ab rfl (dg rfl ?_)
 refine yA rfl rfl ?_
 refine yN ?_
 dsimp only [St.put]
 refine K1 _ ?_
 refine yS fun _ K2 => ?_
 refine yR ?_
 try dsimp only [St.put]
 refine ab rfl (dg rfl ?_)
 refine yN ?_
 dsimp only [St.put]
 refine K2 _ ?_
 refine qi (nx + 1) 0 _ _ 3 1 zG rfl (by decide) ?_
 refine qi (nx + 1) 1 _ _ 3 1 zG rfl (by decide) ?_
 refine qi (nx + 1) 2 _ _ 57 1 zG rfl (by decide) ?_
 dsimp only [List.set_cons_zero, List.set_cons_succ]
 refine yS fun _ K3 => ?_
 refine yS fun _ K4 => ?_
 refine yR ?_
 refine yM rfl rfl ?_
 try dsimp only [St.put]
 refine ab rfl (az rfl rfl rfl (uik p) ?_)
 refine yN ?_
 dsimp only [St.put]
 refine K4 _ ?_
 refine cd ?_
 refine du 15 ?_
 refine zQ ?_
 refine fa ((aj (aj (aj (aj (aj G nx (.box 0 [.list [] .nil, .list [] .nil, .list [] .nil])) (nx + 1) (.box (0) [.list ((ce 0 (co p)).map cells) (.tip (nx + 1 + 1)), .list ((ce 0 (dh p)).map cells) (.tip (nx + 1 + 1 + 1)), .list (((p.pages.take 0).map (dd p)).map cells) (.tip (nx + 1 + 1 + 1 + 1))])) (nx + 1 + 1) (.tip (ce 0 (co p)).length 3 1)) (nx + 1 + 1 + 1) (.tip (ce 0 (dh p)).length 3 1)) (nx + 1 + 1 + 1 + 1) (.tip ((p.pages.take 0).map (dd p)).length 57 1))) zX ?_
 dsimp only
 refine udd [15] (fun k => (aj (aj (aj (aj (aj G nx (.box 0 [.list [] .nil, .list [] .nil, .list [] .nil])) (nx + 1) (.box (k) [.list ((ce k (co p)).map cells) (.tip (nx + 1 + 1)), .list ((ce 0 (dh p)).map cells) (.tip (nx + 1 + 1 + 1)), .list (((p.pages.take 0).map (dd p)).map cells) (.tip (nx + 1 + 1 + 1 + 1))])) (nx + 1 + 1) (.tip (ce k (co p)).length 3 1)) (nx + 1 + 1 + 1) (.tip (ce 0 (dh p)).length 3 1)) (nx + 1 + 1 + 1 + 1) (.tip ((p.pages.take 0).map (dd p)).length 57 1))) (fun k => [(15, .v (.int .i64 (co p k)))]) (uil n p h) (fun k => zG) (by (try dsimp only); omega) rfl rfl (fun _ => rfl) ?_ ?_ ?_ (fun lr k hrk => ?_) ?_
 ·intro k
  rfl
 ·exact zX
 ·intro k
  exact zH
 ·have hll := iz k (co p)
  refine yR ?_
  refine yA rfl rfl ?_
  refine yN ?_
  dsimp only [St.put]
  show AW _ _ _ _ _
  refine cd ?_
  refine yR ?_
  refine aa rfl (cm rfl rfl) ?_
  try dsimp only [St.put]
  refine ae rfl (ci rfl rfl zG trivial (by first | rfl | assumption)) ?_
  refine yM rfl rfl ?_
  try dsimp only [St.put]
  refine ab rfl (cy rfl rfl rfl (by decide) (by decide) zR (by decide) ?_)
  try dsimp only [St.put]
  refine ab rfl (j8 ([co p k]) rfl rfl zG zE rfl rfl zA ?_ zA)
  refine aa rfl (cm rfl rfl) ?_
  try dsimp only [St.put]
  refine ab rfl (gi rfl rfl rfl zG (by constructor) rfl zO ?_)
  refine yN ?_
  dsimp only [St.put]
  rw [← vn k (co p)]
  exact zX
 dsimp only
 refine K3 _ ?_
 refine yS fun _ K5 => ?_
 refine yS fun _ K6 => ?_
 refine yR ?_
 refine yM rfl rfl ?_
 refine aa rfl (j3 rfl rfl) ?_
 refine yF rfl rfl rfl rfl ?_
 refine yF rfl rfl rfl rfl ?_
 refine yL rfl rfl rfl ?_
 refine aa rfl (cc rfl rfl (List.length_map _)) ?_
 refine yM rfl rfl ?_
 refine yN ?_
 dsimp only [St.put]
 refine K6 _ ?_
 refine cd ?_
 refine du 29 ?_
 refine zQ ?_
 refine fa ((aj (aj (aj (aj (aj G nx (.box 0 [.list [] .nil, .list [] .nil, .list [] .nil])) (nx + 1) (.box ((bu p)) [.list ((ce (bu p) (co p)).map cells) (.tip (nx + 1 + 1)), .list ((ce 0 (dh p)).map cells) (.tip (nx + 1 + 1 + 1)), .list (((p.pages.take 0).map (dd p)).map cells) (.tip (nx + 1 + 1 + 1 + 1))])) (nx + 1 + 1) (.tip (ce (bu p) (co p)).length 3 1)) (nx + 1 + 1 + 1) (.tip (ce 0 (dh p)).length 3 1)) (nx + 1 + 1 + 1 + 1) (.tip ((p.pages.take 0).map (dd p)).length 57 1))) zX ?_
 dsimp only
 refine et (X := Nat) (fun j => j ≤ p.pages.length) (fun j => p.pages.length - j) (fun j => [(6, .any), (7, .any), (8, .any), (9, .any), (10, .any), (11, .any), (12, .any), (28, .v (.int .i64 (j : Int)))]) (fun j G' => (aj (aj (aj (aj (aj G nx (.box 0 [.list [] .nil, .list [] .nil, .list [] .nil])) (nx + 1) (.box ((bu p + 2 * j)) [.list ((ce (bu p) (co p)).map cells) (.tip (nx + 1 + 1)), .list ((ce j (dh p)).map cells) (.tip (nx + 1 + 1 + 1)), .list (((p.pages.take j).map (dd p)).map cells) (.tip (nx + 1 + 1 + 1 + 1))])) (nx + 1 + 1) (.tip (ce (bu p) (co p)).length 3 1)) (nx + 1 + 1 + 1) (.tip (ce j (dh p)).length 3 1)) (nx + 1 + 1 + 1 + 1) (.tip ((p.pages.take j).map (dd p)).length 57 1))) 0 rfl ?_ ?_ ?_ ?_ ?_ ?_
 ·exact Nat.zero_le _
 ·exact zF
 ·exact zX
 ·rintro j hI
  exact zL
 ·rintro j hI
  exact zH
 rintro j hJ
 dsimp only at hJ ⊢
 refine yS fun _ K7 => ?_
 refine yR ?_
 refine aa rfl (dp rfl rfl rfl) ?_
 refine yN ?_
 dsimp only [St.put]
 refine K7 _ ?_
 refine yS fun _ K8 => ?_
 refine bc rfl (fun hc => ?_) (fun hc => ?_)
 ·replace hc := of_decide_eq_true hc
  obtain ⟨x, hx⟩ : ∃ x, p.pages[j]? = some x := fl (by omega)
  have hw1 : (p.pages.map fun x => (fb p.text x : Int))[j]? = some (fb p.text x : Int) := pu (fun x => (fb p.text x : Int)) hx
  have hw2 := pu (ed p.text) hx
  have hgl := ui p.text x
  have hwx := vd p.text x
  have hll := iz j (dh p)
  have hp := pageB_true.1 (h.page j x hx)
  have hp1 := hp.fst
  have hp2 := hp.snd
  have hll2 : ((p.pages.take j).map (dd p)).length ≤ 8 := by rw [List.length_map, List.length_take]; omega
  refine bi ?_
  refine K8 _ ?_
  refine yS fun _ K9 => ?_
  refine cd ?_
  refine yS fun _ K10 => ?_
  refine yR ?_
  refine yM rfl rfl ?_
  refine aa rfl (c5 rfl rfl rfl rfl (c7 (by assumption)) (Enc.len _)) ?_
  refine yE rfl rfl rfl ?_
  try dsimp only [St.put]
  refine ab rfl (dg rfl ?_)
  refine yA rfl rfl ?_
  try dsimp only [St.put]
  refine ab rfl (cn rfl rfl rfl zG rfl rfl (by rfl) ?_)
  refine yN ?_
  dsimp only [St.put]
  refine K10 _ ?_
  refine fj (i := 7) rfl zG zC ?_
  dsimp only
  refine yS fun _ K11 => ?_
  refine ia [(0, none), (1, none), (2, none), (3, none), (4, none), (5, none), (6, none), (7, none), (8, none), (9, none), (10, none), (11, none), (12, none), (13, none), (14, none), (15, none), (16, none), (17, none), (18, none), (19, none), (20, none), (21, none)] (fun i => [19, 21].contains i) (fun i => [18, 19, 21].contains i) (fun i => [0, 2, 3, 4, 6, 7, 9, 10, 11, 13, 14, 16, 17, 20].contains i) [nx + 1] (by kernel_rfl) (by kernel_rfl) ?_
  refine ai rfl rfl rfl rfl (cm rfl rfl) ?_
  try dsimp only [St.put]
  refine ak rfl rfl rfl rfl (ci rfl rfl zG (by simp) (by first | rfl | assumption)) ?_
  refine xM rfl rfl rfl rfl rfl ?_
  refine ai rfl rfl rfl rfl (j3 rfl rfl) ?_
  refine ai rfl rfl rfl rfl (c6 rfl rfl rfl) ?_
  try dsimp only [St.put]
  refine ak rfl rfl rfl rfl (bw rfl rfl) ?_
  refine xM rfl rfl rfl rfl rfl ?_
  try dsimp only [St.put]
  refine ai rfl rfl rfl rfl (c5 rfl rfl rfl rfl (c7 (by assumption)) (Enc.len _)) ?_
  try dsimp only [St.put]
  refine ak rfl rfl rfl rfl (bw rfl rfl) ?_
  refine xM rfl rfl rfl rfl rfl ?_
  refine ai rfl rfl rfl rfl (j3 rfl rfl) ?_
  refine ai rfl rfl rfl rfl (c6 rfl rfl rfl) ?_
  try dsimp only [St.put]
  refine ak rfl rfl rfl rfl (bw rfl rfl) ?_
  refine xM rfl rfl rfl rfl rfl ?_
  try dsimp only [St.put]
  refine ai rfl rfl rfl rfl (c5 rfl rfl rfl rfl (c7 (by assumption)) (Enc.len _)) ?_
  try dsimp only [St.put]
  refine ak rfl rfl rfl rfl (bw rfl rfl) ?_
  refine ai rfl rfl rfl rfl (cc rfl rfl (List.length_map _)) ?_
  refine ai rfl rfl rfl rfl (je rfl rfl rfl (by omega)) ?_
  refine jb ?_
  try dsimp only [St.put]
  refine ki rfl rfl rfl (cy rfl rfl rfl (by decide) (by decide) zR (by decide) ⟨zD, ?_⟩)
  try dsimp only [St.put]
  refine gz rfl rfl rfl rfl (j8 ([(fb p.text x : Int) - ((ed p.text x).length : Int)]) rfl rfl zG zE rfl rfl zA ?_ zA)
  refine ef rfl rfl rfl rfl (cm rfl rfl) ?_
  try dsimp only [St.put]
  refine gz rfl rfl rfl rfl (gi rfl rfl rfl zG (by constructor) rfl zO ?_)
  refine ja ?_
  dsimp only [St.put]
  have e := vn j (dh p)
  rw [show dh p j = (fb p.text x : Int) - ((ed p.text x).length : Int) from ugx hx _] at e
  simp only [← e]
  refine K11 _ ?_
  refine yS fun _ K12 => ?_
  refine yR ?_
  refine yA rfl rfl ?_
  refine yN ?_
  dsimp only [St.put]
  refine K12 _ ?_
  refine o5 8 3 1 rfl (by decide) ?_
  dsimp only [List.set_cons_zero, List.set_cons_succ]
  refine yS fun _ K13 => ?_
  refine yR ?_
  refine yA rfl rfl ?_
  refine yN ?_
  dsimp only [St.put]
  refine K13 _ ?_
  refine yS fun _ K14 => ?_
  refine yS fun _ K15 => ?_
  refine yR ?_
  try dsimp only [St.put]
  refine ae rfl (dq (n := 6) (m := n) rfl rfl zG rfl) ?_
  refine yM rfl rfl ?_
  refine yN ?_
  dsimp only [St.put]
  refine K15 _ ?_
  refine cd ?_
  refine du 56 ?_
  refine zQ ?_
  refine fa (aj ((aj (aj (aj (aj (aj G nx (.box 0 [.list [] .nil, .list [] .nil, .list [] .nil])) (nx + 1) (.box ((bu p + 2 * j + 1)) [.list ((ce (bu p) (co p)).map cells) (.tip (nx + 1 + 1)), .list ((ce (j + 1) (dh p)).map cells) (.tip (nx + 1 + 1 + 1)), .list (((p.pages.take j).map (dd p)).map cells) (.tip (nx + 1 + 1 + 1 + 1))])) (nx + 1 + 1) (.tip (ce (bu p) (co p)).length 3 1)) (nx + 1 + 1 + 1) (.tip (ce (j + 1) (dh p)).length 3 1)) (nx + 1 + 1 + 1 + 1) (.tip ((p.pages.take j).map (dd p)).length 57 1))) (nx + 1 + 1 + 1 + 1 + 1 + 1) (.tip 0 3 1)) zX ?_
  dsimp only
  refine et (X := Nat) (fun k => k ≤ 2) (fun k => 2 - k) (fun k => [(8, .list ((m9 p x k).map cells) (.tip (nx + 1 + 1 + 1 + 1 + 1 + 1))), (9, .v (.int .i64 (sdN p k : Int))), (11, .any), (12, .any), (55, .v (.int .i64 (k : Int)))]) (fun k G' => aj ((aj (aj (aj (aj (aj G nx (.box 0 [.list [] .nil, .list [] .nil, .list [] .nil])) (nx + 1) (.box ((bu p + 2 * j + 1)) [.list ((ce (bu p) (co p)).map cells) (.tip (nx + 1 + 1)), .list ((ce (j + 1) (dh p)).map cells) (.tip (nx + 1 + 1 + 1)), .list (((p.pages.take j).map (dd p)).map cells) (.tip (nx + 1 + 1 + 1 + 1))])) (nx + 1 + 1) (.tip (ce (bu p) (co p)).length 3 1)) (nx + 1 + 1 + 1) (.tip (ce (j + 1) (dh p)).length 3 1)) (nx + 1 + 1 + 1 + 1) (.tip ((p.pages.take j).map (dd p)).length 57 1))) (nx + 1 + 1 + 1 + 1 + 1 + 1) (.tip (m9 p x k).length 3 1)) 0 rfl ?_ ?_ ?_ ?_ ?_ ?_
  ·exact Nat.zero_le _
  ·exact zF
  ·exact zX
  ·rintro k hI
   exact zL
  ·rintro k hI
   exact zH
  rintro k hK
  dsimp only at hK ⊢
  refine yS fun _ K16 => ?_
  refine yR ?_
  refine aa rfl (dp rfl rfl rfl) ?_
  refine yN ?_
  dsimp only [St.put]
  refine K16 _ ?_
  refine yS fun _ K17 => ?_
  refine bc rfl (fun hc => ?_) (fun hc => ?_)
  ·replace hc := of_decide_eq_true hc
   have hk : k < 2 := by omega
   have hsd : sdN p k ≤ 3 ∧ (di p (decide (k = 1))).length ≤ 3 ∧ -1 ≤ eu (decide (k = 1)) x ∧ eu (decide (k = 1)) x ≤ 3 := by
    have : k = 0 ∨ k = 1 := by omega
    rcases this with rfl | rfl
    ·exact ⟨Nat.zero_le _, hn1, by show -1 ≤ x.fst; omega, by show x.fst ≤ 3; omega⟩
    exact ⟨hn1, hn2, by show -1 ≤ x.snd; omega, by show x.snd ≤ 3; omega⟩
   have hst : m9 p x (k + 1) = m9 p x k ++ bif decide (0 ≤ eu (decide (k = 1)) x) then [(sdN p k : Int) + eu (decide (k = 1)) x] else [] := rfl
   have hrl := zg p x k
   refine bi ?_
   refine K17 _ ?_
   refine yS fun _ K18 => ?_
   refine cd ?_
   refine yS fun _ K19 => ?_
   refine yR ?_
   refine aa rfl (tv (k := k) (m := 2) (sz := 3) rfl rfl rfl rfl hk (s8 hk)) ?_
   try dsimp only [St.put]
   refine ab rfl (dg rfl ?_)
   try dsimp only [St.put]
   refine ab rfl (cn rfl rfl rfl zG rfl rfl (by rfl) ?_)
   refine yN ?_
   dsimp only [St.put]
   refine K19 _ ?_
   refine fj (i := 11) rfl zG zC ?_
   dsimp only
   refine yS fun _ K20 => ?_
   refine yS fun _ K21 => ?_
   refine yR ?_
   refine yF rfl rfl rfl rfl ?_
   refine yL rfl rfl rfl ?_
   refine yE rfl rfl rfl ?_
   try dsimp only [St.put]
   refine ab rfl (az rfl rfl rfl (vv (decide (k = 1)) x) ?_)
   refine yA rfl rfl ?_
   refine yN ?_
   dsimp only [St.put]
   refine K21 _ ?_
   refine yS fun _ K22 => ?_
   refine yR ?_
   refine yM rfl rfl ?_
   refine aa rfl (pq rfl rfl rfl) ?_
   refine yN ?_
   dsimp only [St.put]
   refine K22 _ ?_
   refine bc rfl (fun hc => ?_) (fun hc => ?_)
   ·have hyes : 0 ≤ eu (decide (k = 1)) x := of_decide_eq_true hc
    refine yR ?_
    refine yM rfl rfl ?_
    refine yM rfl rfl ?_
    refine yM rfl rfl ?_
    refine aa rfl (ct rfl rfl rfl (by omega)) ?_
    try dsimp only [St.put]
    refine ab rfl (cy rfl rfl rfl (by decide) (by decide) zR (by decide) ?_)
    try dsimp only [St.put]
    refine ab rfl (j8 ([(sdN p k : Int) + eu (decide (k = 1)) x]) rfl rfl zG zE rfl rfl zA ?_ zA)
    refine yA rfl rfl ?_
    refine yN ?_
    dsimp only [St.put]
    refine K20 _ ?_
    refine ia [(0, none), (1, none), (2, none), (3, none), (4, none), (5, none), (6, none), (7, none), (8, none), (9, none), (10, none)] (fun i => [7].contains i) (fun i => [7].contains i) (fun i => [0, 1, 3, 4, 5, 8, 9, 10].contains i) [] (by kernel_rfl) (by kernel_rfl) ?_
    refine xM rfl rfl rfl rfl rfl ?_
    refine ai rfl rfl rfl rfl (c6 rfl rfl rfl) ?_
    try dsimp only [St.put]
    refine ak rfl rfl rfl rfl (bw rfl rfl) ?_
    refine xM rfl rfl rfl rfl rfl ?_
    refine ai rfl rfl rfl rfl (j3 rfl rfl) ?_
    refine ai rfl rfl rfl rfl (c6 rfl rfl rfl) ?_
    try dsimp only [St.put]
    refine ak rfl rfl rfl rfl (c := val p) (kn (cs := jo p) rfl rfl (show 4 ≤ 7 by decide)) ?_
    refine jb ?_
    try dsimp only [St.put]
    refine gz rfl rfl rfl rfl (az rfl rfl rfl (m7 (decide (k = 1)) p) ?_)
    refine ef rfl rfl rfl rfl (cc rfl rfl (List.length_map _)) ?_
    refine ef rfl rfl rfl rfl (ct rfl rfl rfl (by omega)) ?_
    refine ef rfl rfl rfl rfl (bq rfl (by constructor)) ?_
    refine ja ?_
    dsimp only [St.put]
    refine K18 _ ?_
    refine yR ?_
    refine aa rfl (ct rfl rfl rfl (by omega)) ?_
    refine yM rfl rfl ?_
    refine yN ?_
    dsimp only [St.put]
    rw [show ((sdN p k : Nat) : Int) + ((di p (decide (k = 1))).length : Int) = ((sdN p (k + 1) : Nat) : Int) by rw [vu hk]; omega]
    first
    | (have z : 0 ≤ eu (decide (k = 1)) x := hyes
       rw [decide_eq_true z, cond_true] at hst
       rw [← hst]
       exact ⟨k + 1, by omega, by omega, ⟨⟨rfl, rfl⟩, zF, zB, zN, zX⟩⟩)
    | (have z : ¬ 0 ≤ eu (decide (k = 1)) x := hno
       rw [decide_eq_false z, cond_false, List.append_nil] at hst
       rw [← hst]
       exact ⟨k + 1, by omega, by omega, ⟨⟨rfl, rfl⟩, zF, zB, zN, zX⟩⟩)
   have hno : ¬ 0 ≤ eu (decide (k = 1)) x := of_decide_eq_false hc
   refine bi ?_
   refine K20 _ ?_
   refine ia [(0, none), (1, none), (2, none), (3, none), (4, none), (5, none), (6, none), (7, none), (8, none), (9, none), (10, none)] (fun i => [7].contains i) (fun i => [7].contains i) (fun i => [0, 1, 3, 4, 5, 8, 9, 10].contains i) [] (by kernel_rfl) (by kernel_rfl) ?_
   refine xM rfl rfl rfl rfl rfl ?_
   refine ai rfl rfl rfl rfl (c6 rfl rfl rfl) ?_
   try dsimp only [St.put]
   refine ak rfl rfl rfl rfl (bw rfl rfl) ?_
   refine xM rfl rfl rfl rfl rfl ?_
   refine ai rfl rfl rfl rfl (j3 rfl rfl) ?_
   refine ai rfl rfl rfl rfl (c6 rfl rfl rfl) ?_
   try dsimp only [St.put]
   refine ak rfl rfl rfl rfl (c := val p) (kn (cs := jo p) rfl rfl (show 4 ≤ 7 by decide)) ?_
   refine jb ?_
   try dsimp only [St.put]
   refine gz rfl rfl rfl rfl (az rfl rfl rfl (m7 (decide (k = 1)) p) ?_)
   refine ef rfl rfl rfl rfl (cc rfl rfl (List.length_map _)) ?_
   refine ef rfl rfl rfl rfl (ct rfl rfl rfl (by omega)) ?_
   refine ef rfl rfl rfl rfl (bq rfl (by constructor)) ?_
   refine ja ?_
   dsimp only [St.put]
   refine K18 _ ?_
   refine yR ?_
   refine aa rfl (ct rfl rfl rfl (by omega)) ?_
   refine yM rfl rfl ?_
   refine yN ?_
   dsimp only [St.put]
   rw [show ((sdN p k : Nat) : Int) + ((di p (decide (k = 1))).length : Int) = ((sdN p (k + 1) : Nat) : Int) by rw [vu hk]; omega]
   first
   | (have z : 0 ≤ eu (decide (k = 1)) x := hyes
      rw [decide_eq_true z, cond_true] at hst
      rw [← hst]
      exact ⟨k + 1, by omega, by omega, ⟨⟨rfl, rfl⟩, zF, zB, zN, zX⟩⟩)
   | (have z : ¬ 0 ≤ eu (decide (k = 1)) x := hno
      rw [decide_eq_false z, cond_false, List.append_nil] at hst
      rw [← hst]
      exact ⟨k + 1, by omega, by omega, ⟨⟨rfl, rfl⟩, zF, zB, zN, zX⟩⟩)
  replace hc := of_decide_eq_false hc
  obtain rfl : k = 2 := by omega
  rw [ugo]
  refine uu 8 (lst (dd p x)) rfl Wk.tok ?_
  refine el ?_
  refine K14 _ ?_
  refine yR ?_
  refine aa rfl (cm rfl rfl) ?_
  try dsimp only [St.put]
  refine ae rfl (ci rfl rfl zG trivial (by first | rfl | assumption)) ?_
  refine yM rfl rfl ?_
  try dsimp only [St.put]
  refine ab rfl (cy rfl rfl rfl (by decide) (by decide) zR (by decide) ?_)
  try dsimp only [St.put]
  refine ab rfl (j8 ([dd p x]) rfl rfl zG zE rfl rfl zA ?_ zA)
  refine aa rfl (cm rfl rfl) ?_
  try dsimp only [St.put]
  refine ab rfl (gi rfl rfl rfl zG (by constructor) rfl zO ?_)
  refine yN ?_
  dsimp only [St.put]
  refine K9 _ ?_
  refine yR ?_
  refine aa rfl (ct rfl rfl rfl (by omega)) ?_
  refine yM rfl rfl ?_
  refine yN ?_
  dsimp only [St.put]
  have e2 := uh8 (dd p) hx
  simp only [← e2]
  exact ⟨j + 1, by omega, by omega, ⟨⟨rfl, rfl⟩, zF, zB, zN, zX⟩⟩
 replace hc := of_decide_eq_false hc
 obtain rfl : j = p.pages.length := by omega
 rw [List.take_length]
 refine qh (nx + 1) (bu p + 2 * p.pages.length) (cells (fq p (co p) (dh p))) zG zW ?_
 refine el ?_
 refine K5 _ ?_
 refine yS fun _ K23 => ?_
 refine ia [(0, none), (1, none), (2, none), (3, none), (4, none), (5, none), (6, none)] (fun i => [5].contains i) (fun i => [3, 5].contains i) (fun i => [1, 4, 6].contains i) [nx + 1] (by kernel_rfl) (by kernel_rfl) ?_
 try dsimp only [St.put]
 refine ak rfl rfl rfl rfl (dc rfl rfl zG (by simp) (by rfl)) ?_
 refine ai rfl rfl rfl rfl (cm rfl rfl) ?_
 try dsimp only [St.put]
 refine ak rfl rfl rfl rfl (ci rfl rfl zG (by simp) (by first | rfl | assumption)) ?_
 refine jb ?_
 try dsimp only [St.put]
 refine ki rfl rfl rfl (az rfl rfl rfl (u6 (ce (bu p) (co p)) (fun z => decide (z < 0)) _ _ fun z _ => ugb z) ⟨zD, ?_⟩)
 refine ef rfl rfl rfl rfl (ge rfl rfl) ?_
 try dsimp only [St.put]
 refine gz rfl rfl rfl rfl (cn rfl rfl rfl zG rfl rfl (by rfl) ?_)
 refine ef rfl rfl rfl rfl (bq rfl (by constructor)) ?_
 refine ja ?_
 dsimp only [St.put]
 refine K23 _ ?_
 refine ay ?_
 refine gw rfl (i6 rfl zG (by rfl) zC rfl) (eb (by constructor)) zN zS ?_ ?_
 ·exact zW
 rw [uin]; exact zW
theorem ugc (m : Nat) (e : Int) (p : af) : C.low m (bif decide (e = 0) then val (fq p (co p) (dh p)) else .agg [.list [] .nil, .list [] .nil, .list [] .nil]) := by
 cases decide (e = 0)
 ·exact .agg (bn em (bn em (bn em cv)))
 exact dz _ _
theorem zt (n : Nat) (p : af) (c : C) (e : Int) (h : e = 0 → fk p ∧ c = .elem (jo p)) : PureS n eg Tryd.prog 47 [c, .v (.int .i64 e)] (.tup [bif decide (ey p e = 0) then val (fq p (co p) (dh p)) else .agg [.list [] .nil, .list [] .nil, .list [] .nil], .v (.int .i64 (ey p e))]) := fun G nx hF hnx => by
 refine gk (G) (nx) Tryd.func47 rfl (.tup (bn (ugc _ _ _) (bn .v cv))) zN (fun hlt => zH) ?_
 simp only [Tryd.ntmps47, List.length_cons, List.length_nil, Nat.reduceAdd, Nat.reduceSub]
 refine bv fun hlt => ?_
 dsimp only at hlt
 refine yS fun _ K1 => ?_
 refine yR ?_
 try dsimp only [St.put]
 refine ab rfl (dg rfl ?_)
 refine yA rfl rfl ?_
 refine yN ?_
 dsimp only [St.put]
 refine K1 _ ?_
 refine yS fun _ K2 => ?_
 refine yS fun _ K3 => ?_
 refine yR ?_
 refine yM rfl rfl ?_
 refine aa rfl (f8 rfl rfl rfl) ?_
 refine yN ?_
 dsimp only [St.put]
 refine K3 _ ?_
 refine bc rfl (fun hc => ?_) (fun hc => ?_)
 ·have h0 : e ≠ 0 := j2 hc
  have hE : ey p e = e := uba h0
  refine yS fun _ K4 => ?_
  refine yR ?_
  refine aa rfl (fh rfl rfl) ?_
  refine yM rfl rfl ?_
  try dsimp only [St.put]
  refine ab rfl (cn rfl rfl rfl zG rfl rfl (by rfl) ?_)
  refine yA rfl rfl ?_
  refine yN ?_
  dsimp only [St.put]
  refine K4 _ ?_
  refine ay ?_
  refine gw rfl (i6 rfl zG (by rfl) zC rfl) (eb (by constructor)) zN zS ?_ ?_
  ·rw [hE, decide_eq_false h0]; exact zW
  rw [hE]; exact zW
 have h0 : e = 0 := g6 hc
 obtain ⟨hok, rfl⟩ := h h0
 subst h0
 refine bi ?_
 refine K2 _ ?_
 refine yS fun _ K5 => ?_
 refine yR ?_
 refine yM rfl rfl ?_
 try dsimp only [St.put]
 refine ab rfl (cx rfl rfl rfl (ug3 n p hok) zG (by dsimp only [St.put]; omega) ?_)
 refine yM rfl rfl ?_
 refine yX rfl rfl rfl rfl ?_
 refine yX rfl rfl rfl rfl ?_
 try dsimp only [St.put]
 refine ab rfl (dg rfl ?_)
 try dsimp only [St.put]
 refine ab rfl (cn rfl rfl rfl zG rfl rfl (by rfl) ?_)
 refine yA rfl rfl ?_
 refine yN ?_
 dsimp only [St.put]
 refine K5 _ ?_
 refine yS fun _ K6 => ?_
 refine yS fun _ K7 => ?_
 refine yR ?_
 refine yM rfl rfl ?_
 refine aa rfl (ge rfl rfl) ?_
 refine yN ?_
 dsimp only [St.put]
 refine K7 _ ?_
 refine bc rfl (fun hc => ?_) (fun hc => ?_)
 ·have hTB : ix p = false := by simpa using hc
  have hE : ey p 0 = 8 := by rw [ry, hTB]; rfl
  refine yS fun _ K8 => ?_
  refine yR ?_
  refine aa rfl (fh rfl rfl) ?_
  try dsimp only [St.put]
  refine ab rfl (cn rfl rfl rfl zG rfl rfl (by rfl) ?_)
  refine yA rfl rfl ?_
  refine yN ?_
  dsimp only [St.put]
  refine K8 _ ?_
  refine ay ?_
  refine gw rfl (i6 rfl zG (by rfl) zC rfl) (eb (by constructor)) zN zS ?_ ?_
  ·rw [hE]; exact zW
  rw [hE]; exact zW
 have hTB : ix p = true := by simpa using hc
 have hE : ey p 0 = 0 := by rw [ry, hTB]; rfl
 refine bi ?_
 refine K6 _ ?_
 refine yS fun _ K9 => ?_
 refine yR ?_
 try dsimp only [St.put]
 refine ae rfl (dc rfl rfl zG trivial (by rfl)) ?_
 try dsimp only [St.put]
 refine ab rfl (cn rfl rfl rfl zG rfl rfl (by rfl) ?_)
 refine yA rfl rfl ?_
 refine yN ?_
 dsimp only [St.put]
 refine K9 _ ?_
 refine ay ?_
 refine gw rfl (i6 rfl zG (by rfl) zC rfl) (eb (by constructor)) zN zS ?_ ?_
 ·rw [hE]; exact zW
 rw [hE]; exact zW
end Go.Proofs.YtgffhbbcpgdjjaaDoor
namespace Go.AB
open Go Go.RowKit
open Go.AB.Enc (cells)
open Go.PB (aq ah PlaceD av ax aw bg am af cb ba cr c4)
/-- what may remain ahead of a page, by the worst truth -/
noncomputable def rmR (p : af) (i : Nat) : Nat → Int := ((bk p).room (co p) (dh p) i).1
noncomputable def rmC (p : af) (i : Nat) : Nat → Int := ((bk p).room (co p) (dh p) i).2
theorem uf9 (p : af) (i : Nat) : rmR p (i + 1) = (bk p).lessR (rmR p i) i (iv p i) := rfl
theorem uga (p : af) (i : Nat) : rmC p (i + 1) = d9 (rmC p i) i := rfl
theorem yc {p : af} (h : fk p) (ht : ix p = true) {i : Nat} (hi : i < p.pages.length) : (bk p).Pick (rmR p i) (rmC p i) i ((bk p).pick (rmR p i) (rmC p i) i) :=
 Net.worst_pick (uhv h) (uet ht) (fun j _ => ucw h j) hi
theorem yd (p : af) (i : Nat) : iv p i = (bk p).pick (rmR p i) (rmC p i) i := rfl
theorem zc {p : af} (h : fk p) (ht : ix p = true) : ∀ {i : Nat}, i ≤ p.pages.length → Bd p (rmR p i) (rmC p i)
 | 0, _ => si h
 | i + 1, hi => by
  have hp := yc h ht (i := i) (by omega)
  rw [uf9, uga, yd]
  exact x4 (zc h ht (by omega)) hp.nn hp.le
theorem uk1 {p : af} {R C : Nat → Int} (hB : Bd p R C) (j : Nat) : (bk p).alone R C j ≤ 1000000 := Int.le_trans (Net.le_alone.1 (Int.le_refl _)).1 (hB.c j).2
end Go.AB
namespace Go.Proofs.YtgffhbbcpgdjjaaDoor
set_option maxRecDepth 10000
open Go.RowKit Go.AB
open Go.AB.Enc (cells)
open Go.PB (aq ah PlaceD av ax aw bg am af cb ba cr c4)
end Go.Proofs.YtgffhbbcpgdjjaaDoor
namespace Go.AB
open Go Go.RowKit
open Go.AB.Enc (cells)
open Go.PB (aq ah PlaceD av ax aw bg am af cb ba cr c4)
theorem rz {p : af} {e : Int} (h : ey p e = 0) : e = 0 ∧ ix p = true := by
 by_cases h0 : e = 0
 ·subst h0
  rw [ry] at h
  cases ht : ix p
  ·rw [ht] at h; cases h
  exact ⟨rfl, rfl⟩
 rw [uba h0] at h; exact absurd h h0
end Go.AB
namespace Go.Proofs.YtgffhbbcpgdjjaaDoor
set_option maxRecDepth 10000
open Go Go.RowKit Go.AB
open Go.AB.Enc (cells)
open Go.PB (aq ah PlaceD av ax aw bg am af cb ba cr c4)
theorem udj {p : af} {n : Int} (h : dx p n = 0) : fk p ∧ pgC p n = .elem (jo p) := ⟨(lz (o6 h).1).1, rg h⟩
theorem nv {p : af} (h : ck p = 0) : fk p ∧ i2 p = .elem (jo p) := ⟨(lz h).1, tn h⟩
theorem rj (n : Nat) (p : af) (c : C) (e : Int) (h : e = 0 → fk p ∧ c = .elem (jo p)) (hE : ey p e = 0) : PureS n eg Tryd.prog 47 [c, .v (.int .i64 e)] (.tup [val (fq p (co p) (dh p)), .v (.int .i64 0)]) := by
 have := zt n p c e h
 rwa [hE, decide_eq_true rfl, cond_true] at this
theorem rk (n : Nat) (p : af) (c : C) (e : Int) (h : e = 0 → fk p ∧ c = .elem (jo p)) (hE : ey p e ≠ 0) : PureS n eg Tryd.prog 47 [c, .v (.int .i64 e)] (.tup [.agg [.list [] .nil, .list [] .nil, .list [] .nil], .v (.int .i64 (ey p e))]) := by
 have := zt n p c e h
 rwa [decide_eq_false hE, cond_false] at this
theorem th (n : Nat) (p : af) (m : Int) : PureS n eg Tryd.prog 29 [val p, .v (.int .i64 m)] (.tup [val (og p m), .v (.int .i64 (ey p (dx p m)))]) := fun G nx hF hnx => by
 refine gk (G) (nx) Tryd.func29 rfl (.tup (bn (dz _ _) (bn .v cv))) zN (fun hlt => zH) ?_
 simp only [Tryd.ntmps29, List.length_cons, List.length_nil, Nat.reduceAdd, Nat.reduceSub]
 refine bv fun hlt => ?_
 dsimp only at hlt
 refine yS fun _ K1 => ?_
 refine yR ?_
 try dsimp only [St.put]
 refine yB rfl rfl rfl ?_
 try dsimp only [St.put]
 refine ab rfl (dg rfl ?_)
 refine yA rfl rfl ?_
 refine yN ?_
 dsimp only [St.put]
 refine K1 _ ?_
 refine yS fun _ K2 => ?_
 by_cases hL : ey p (dx p m) = 0
 ·refine yR ?_
  refine yE rfl rfl rfl ?_
  refine yM rfl rfl ?_
  try dsimp only [St.put]
  refine ab rfl (cx rfl rfl rfl (pm n p m) zG (by dsimp only [St.put]; omega) ?_)
  refine yX rfl rfl rfl rfl ?_
  refine yX rfl rfl rfl rfl ?_
  try dsimp only [St.put]
  refine ab rfl (cx rfl rfl rfl (rj n p (pgC p m) (dx p m) udj hL) zG (by dsimp only [St.put]; omega) ?_)
  refine yM rfl rfl ?_
  refine yX rfl rfl rfl rfl ?_
  refine yX rfl rfl rfl rfl ?_
  try dsimp only [St.put]
  refine ab rfl (dg rfl ?_)
  try dsimp only [St.put]
  refine ab rfl (cn rfl rfl rfl zG rfl rfl (by rfl) ?_)
  refine yA rfl rfl ?_
  refine yN ?_
  dsimp only [St.put]
  refine K2 _ ?_
  refine yS fun _ K3 => ?_
  refine yS fun _ K4 => ?_
  refine yR ?_
  refine yM rfl rfl ?_
  refine aa rfl (f8 rfl rfl rfl) ?_
  refine yN ?_
  dsimp only [St.put]
  refine K4 _ ?_
  refine bc rfl (fun hc => ?_) (fun hc => ?_)
  ·exact absurd hc (by decide)
  obtain ⟨h0, hTB⟩ := rz hL
  obtain ⟨hc0, j, x, rfl, hx, hpo⟩ := o6 h0
  obtain ⟨hok, _⟩ := lz hc0
  have hV : og p (j : Int) = ⟨0, (bk p).alone (co p) (dh p) j⟩ := by unfold og; rw [hL, n3, Int.toNat_natCast]
  refine bi ?_
  refine K3 _ ?_
  refine yS fun _ K5 => ?_
  refine yR ?_
  try dsimp only [St.put]
  refine ae rfl (dc rfl rfl zG trivial (by rfl)) ?_
  refine yM rfl rfl ?_
  try dsimp only [St.put]
  refine ab rfl (az rfl rfl rfl (zw p (co p) (dh p) j x hok hx) ?_)
  refine aa rfl (fh rfl rfl) ?_
  try dsimp only [St.put]
  refine ab rfl (cn rfl rfl rfl zG rfl rfl (by rfl) ?_)
  refine yA rfl rfl ?_
  refine yN ?_
  dsimp only [St.put]
  refine K5 _ ?_
  refine ay ?_
  refine gw rfl (i6 rfl zG (by rfl) zC rfl) (eb (by constructor)) zN zS ?_ ?_
  ·rw [hV]; exact zW
  rw [hL]; exact zW
 refine yR ?_
 refine yE rfl rfl rfl ?_
 refine yM rfl rfl ?_
 try dsimp only [St.put]
 refine ab rfl (cx rfl rfl rfl (pm n p m) zG (by dsimp only [St.put]; omega) ?_)
 refine yX rfl rfl rfl rfl ?_
 refine yX rfl rfl rfl rfl ?_
 try dsimp only [St.put]
 refine ab rfl (cx rfl rfl rfl (rk n p (pgC p m) (dx p m) udj hL) zG (by dsimp only [St.put]; omega) ?_)
 refine yM rfl rfl ?_
 refine yX rfl rfl rfl rfl ?_
 refine yX rfl rfl rfl rfl ?_
 try dsimp only [St.put]
 refine ab rfl (dg rfl ?_)
 try dsimp only [St.put]
 refine ab rfl (cn rfl rfl rfl zG rfl rfl (by rfl) ?_)
 refine yA rfl rfl ?_
 refine yN ?_
 dsimp only [St.put]
 refine K2 _ ?_
 refine yS fun _ K6 => ?_
 refine yS fun _ K7 => ?_
 refine yR ?_
 refine yM rfl rfl ?_
 refine aa rfl (f8 rfl rfl rfl) ?_
 refine yN ?_
 dsimp only [St.put]
 refine K7 _ ?_
 refine bc rfl (fun hc => ?_) (fun hc => ?_)
 ·have hV : og p m = ⟨0, 0⟩ := by unfold og; rw [j9 hL]
  refine yS fun _ K8 => ?_
  refine yR ?_
  refine aa rfl (fh rfl rfl) ?_
  refine yM rfl rfl ?_
  try dsimp only [St.put]
  refine ab rfl (cn rfl rfl rfl zG rfl rfl (by rfl) ?_)
  refine yA rfl rfl ?_
  refine yN ?_
  dsimp only [St.put]
  refine K8 _ ?_
  refine ay ?_
  refine gw rfl (i6 rfl zG (by rfl) zC rfl) (eb (by constructor)) zN zS ?_ ?_
  ·rw [hV]; exact zW
  exact zW
 exact absurd (g6 hc) hL
theorem zu (n : Nat) (p : af) : PureS n eg Tryd.prog 32 [val p] (.tup [val (pf p), .v (.int .i64 (ey p (ck p)))]) := fun G nx hF hnx => by
 refine gk (G) (nx) Tryd.func32 rfl (.tup (bn (dz _ _) (bn .v cv))) zN (fun hlt => zH) ?_
 simp only [Tryd.ntmps32, List.length_cons, List.length_nil, Nat.reduceAdd, Nat.reduceSub]
 refine bv fun hlt => ?_
 dsimp only at hlt
 refine yS fun _ K1 => ?_
 refine yR ?_
 try dsimp only [St.put]
 refine yB rfl rfl rfl ?_
 try dsimp only [St.put]
 refine ab rfl (dg rfl ?_)
 refine yA rfl rfl ?_
 refine yN ?_
 dsimp only [St.put]
 refine K1 _ ?_
 refine yS fun _ K2 => ?_
 by_cases hL : ey p (ck p) = 0
 ·refine yR ?_
  refine yE rfl rfl rfl ?_
  try dsimp only [St.put]
  refine ab rfl (cx rfl rfl rfl (lm n p) zG (by dsimp only [St.put]; omega) ?_)
  refine yX rfl rfl rfl rfl ?_
  refine yX rfl rfl rfl rfl ?_
  try dsimp only [St.put]
  refine ab rfl (cx rfl rfl rfl (rj n p (i2 p) (ck p) nv hL) zG (by dsimp only [St.put]; omega) ?_)
  refine yM rfl rfl ?_
  refine yX rfl rfl rfl rfl ?_
  refine yX rfl rfl rfl rfl ?_
  try dsimp only [St.put]
  refine ab rfl (dg rfl ?_)
  try dsimp only [St.put]
  refine ab rfl (cn rfl rfl rfl zG rfl rfl (by rfl) ?_)
  refine yA rfl rfl ?_
  refine yN ?_
  dsimp only [St.put]
  refine K2 _ ?_
  refine yS fun _ K3 => ?_
  refine yS fun _ K4 => ?_
  refine yR ?_
  refine yM rfl rfl ?_
  refine aa rfl (f8 rfl rfl rfl) ?_
  refine yN ?_
  dsimp only [St.put]
  refine K4 _ ?_
  refine bc rfl (fun hc => ?_) (fun hc => ?_)
  ·exact absurd hc (by decide)
  obtain ⟨h0, hTB⟩ := rz hL
  obtain ⟨hok, _⟩ := lz h0
  have hV : pf p = ⟨0, (bk p).most (co p) (dh p)⟩ := by unfold pf; rw [hL, n3]; rfl
  refine bi ?_
  refine K3 _ ?_
  refine yS fun _ K5 => ?_
  refine yR ?_
  try dsimp only [St.put]
  refine ae rfl (dc rfl rfl zG trivial (by rfl)) ?_
  try dsimp only [St.put]
  refine ab rfl (az rfl rfl rfl (rm p (co p) (dh p) hok (si hok)) ?_)
  refine aa rfl (fh rfl rfl) ?_
  try dsimp only [St.put]
  refine ab rfl (cn rfl rfl rfl zG rfl rfl (by rfl) ?_)
  refine yA rfl rfl ?_
  refine yN ?_
  dsimp only [St.put]
  refine K5 _ ?_
  refine ay ?_
  refine gw rfl (i6 rfl zG (by rfl) zC rfl) (eb (by constructor)) zN zS ?_ ?_
  ·rw [hV]; exact zW
  rw [hL]; exact zW
 refine yR ?_
 refine yE rfl rfl rfl ?_
 try dsimp only [St.put]
 refine ab rfl (cx rfl rfl rfl (lm n p) zG (by dsimp only [St.put]; omega) ?_)
 refine yX rfl rfl rfl rfl ?_
 refine yX rfl rfl rfl rfl ?_
 try dsimp only [St.put]
 refine ab rfl (cx rfl rfl rfl (rk n p (i2 p) (ck p) nv hL) zG (by dsimp only [St.put]; omega) ?_)
 refine yM rfl rfl ?_
 refine yX rfl rfl rfl rfl ?_
 refine yX rfl rfl rfl rfl ?_
 try dsimp only [St.put]
 refine ab rfl (dg rfl ?_)
 try dsimp only [St.put]
 refine ab rfl (cn rfl rfl rfl zG rfl rfl (by rfl) ?_)
 refine yA rfl rfl ?_
 refine yN ?_
 dsimp only [St.put]
 refine K2 _ ?_
 refine yS fun _ K6 => ?_
 refine yS fun _ K7 => ?_
 refine yR ?_
 refine yM rfl rfl ?_
 refine aa rfl (f8 rfl rfl rfl) ?_
 refine yN ?_
 dsimp only [St.put]
 refine K7 _ ?_
 refine bc rfl (fun hc => ?_) (fun hc => ?_)
 ·have hV : pf p = ⟨0, 0⟩ := by unfold pf; rw [j9 hL]
  refine yS fun _ K8 => ?_
  refine yR ?_
  refine aa rfl (fh rfl rfl) ?_
  refine yM rfl rfl ?_
  try dsimp only [St.put]
  refine ab rfl (cn rfl rfl rfl zG rfl rfl (by rfl) ?_)
  refine yA rfl rfl ?_
  refine yN ?_
  dsimp only [St.put]
  refine K8 _ ?_
  refine ay ?_
  refine gw rfl (i6 rfl zG (by rfl) zC rfl) (eb (by constructor)) zN zS ?_ ?_
  ·rw [hV]; exact zW
  exact zW
 exact absurd (g6 hc) hL
set_option maxHeartbeats 1000000 in
theorem zq (n0 : Nat) (p : af) : PureS n0 eg Tryd.prog 30 [val p] (.tup [lst (n7 p), .v (.int .i64 (ey p (ck p)))]) := fun G nx hF hnx => by
 refine gk (G) (nx) Tryd.func30 rfl (.tup (bn (bd _ _) (bn .v cv))) zN (fun hlt => zH) ?_
 simp only [Tryd.ntmps30, List.length_cons, List.length_nil, Nat.reduceAdd, Nat.reduceSub]
 refine bv fun hlt => ?_
 dsimp only at hlt
 refine yS fun _ K1 => ?_
 refine yR ?_
 try dsimp only [St.put]
 refine yB rfl rfl rfl ?_
 refine yA rfl rfl ?_
 refine yA rfl rfl ?_
 refine yN ?_
 dsimp only [St.put]
 refine K1 _ ?_
 refine yS fun _ K2 => ?_
 by_cases hL : ey p (ck p) = 0
 ·refine yR ?_
  refine yE rfl rfl rfl ?_
  try dsimp only [St.put]
  refine ab rfl (cx rfl rfl rfl (lm n0 p) zG (by dsimp only [St.put]; omega) ?_)
  refine yX rfl rfl rfl rfl ?_
  refine yX rfl rfl rfl rfl ?_
  try dsimp only [St.put]
  refine ab rfl (cx rfl rfl rfl (rj n0 p (i2 p) (ck p) nv hL) zG (by dsimp only [St.put]; omega) ?_)
  refine yM rfl rfl ?_
  refine yX rfl rfl rfl rfl ?_
  refine yX rfl rfl rfl rfl ?_
  try dsimp only [St.put]
  refine ab rfl (dg rfl ?_)
  try dsimp only [St.put]
  refine ab rfl (cn rfl rfl rfl zG rfl rfl (by rfl) ?_)
  refine yA rfl rfl ?_
  refine yN ?_
  dsimp only [St.put]
  refine K2 _ ?_
  refine yS fun _ K3 => ?_
  refine yS fun _ K4 => ?_
  refine yR ?_
  refine yM rfl rfl ?_
  refine aa rfl (f8 rfl rfl rfl) ?_
  refine yN ?_
  dsimp only [St.put]
  refine K4 _ ?_
  refine bc rfl (fun hc => ?_) (fun hc => ?_)
  ·exact absurd hc (by decide)
  obtain ⟨h0, hTB⟩ := rz hL
  obtain ⟨hok, _⟩ := lz h0
  have hnp := hok.np
  have hV : n7 p = ce p.pages.length (iv p) := by unfold n7; rw [hL, n3]
  refine bi ?_
  refine K3 _ ?_
  refine yS fun _ K5 => ?_
  refine yR ?_
  refine yA rfl rfl ?_
  refine yN ?_
  dsimp only [St.put]
  refine K5 _ ?_
  refine o5 6 3 1 rfl (by decide) ?_
  dsimp only [List.set_cons_zero, List.set_cons_succ]
  refine yS fun _ K6 => ?_
  refine yS fun _ K7 => ?_
  refine yR ?_
  refine yF rfl rfl rfl rfl ?_
  refine yL rfl rfl rfl ?_
  refine aa rfl (cc rfl rfl (List.length_map _)) ?_
  refine yM rfl rfl ?_
  refine yN ?_
  dsimp only [St.put]
  refine K7 _ ?_
  refine cd ?_
  refine du 25 ?_
  refine zQ ?_
  refine fa ((aj (aj G nx (.box (0 + 1) (cells (fq p (rmR p 0) (rmC p 0))))) (nx + 1) (.tip (ce 0 (iv p)).length 3 1))) zX ?_
  dsimp only
  refine et (X := Nat) (fun i => i ≤ p.pages.length) (fun i => p.pages.length - i) (fun i => [(6, .list ((ce i (iv p)).map cells) (.tip (nx + 1))), (7, .any), (8, .any), (9, .any), (24, .v (.int .i64 (i : Int)))]) (fun i G' => (aj (aj G nx (.box (i + 1) (cells (fq p (rmR p i) (rmC p i))))) (nx + 1) (.tip (ce i (iv p)).length 3 1))) 0 rfl ?_ ?_ ?_ ?_ ?_ ?_
  ·exact Nat.zero_le _
  ·exact zF
  ·exact zX
  ·rintro i hI
   exact zL
  ·rintro i hI
   exact zH
  rintro i hI
  dsimp only at hI ⊢
  refine yS fun _ K8 => ?_
  refine yR ?_
  refine aa rfl (dp rfl rfl rfl) ?_
  refine yN ?_
  dsimp only [St.put]
  refine K8 _ ?_
  refine yS fun _ K9 => ?_
  refine bc rfl (fun hc => ?_) (fun hc => ?_)
  ·replace hc := of_decide_eq_true hc
   have hi : i < p.pages.length := by omega
   obtain ⟨x, hx⟩ : ∃ x, p.pages[i]? = some x := fl hi
   have hB := zc hok hTB (Nat.le_of_lt hi)
   have hP := yc hok hTB hi
   have hab := uk1 hB i
   have hmb := uav hB
   have hln := iz i (iv p)
   have hPn := hP.nn
   refine bi ?_
   refine K9 _ ?_
   refine yS fun _ K10 => ?_
   refine cd ?_
   refine yS fun _ K11 => ?_
   refine yR ?_
   refine yM rfl rfl ?_
   refine yA rfl rfl ?_
   refine yN ?_
   dsimp only [St.put]
   refine K11 _ ?_
   refine yS fun _ K12 => ?_
   refine ia [(0, none), (2, none), (3, none), (1, none), (4, none), (5, none), (6, none)] (fun i => [4].contains i) (fun i => [1, 4].contains i) (fun i => [3, 5, 6].contains i) [nx] (by kernel_rfl) (by kernel_rfl) ?_
   try dsimp only [St.put]
   refine ak rfl rfl rfl rfl (dc rfl rfl zG (by simp) (by rfl)) ?_
   try dsimp only [St.put]
   refine ak rfl rfl rfl rfl (dc rfl rfl zG (by simp) (by rfl)) ?_
   refine xM rfl rfl rfl rfl rfl ?_
   refine jb ?_
   try dsimp only [St.put]
   refine ki rfl rfl rfl (az rfl rfl rfl (rm p _ _ hok hB) ⟨zD, ?_⟩)
   try dsimp only [St.put]
   refine gz rfl rfl rfl rfl (az rfl rfl rfl (zw p (rmR p i) (rmC p i) i x hok hx) ?_)
   refine ef rfl rfl rfl rfl (bq rfl (by constructor)) ?_
   refine ef rfl rfl rfl rfl (bq rfl (by constructor)) ?_
   refine ja ?_
   dsimp only [St.put]
   refine K12 _ ?_
   refine yS fun _ K13 => ?_
   refine cd ?_
   refine du 25 ?_
   refine zQ ?_
   refine et (X := Int) (fun n => FromTop p (rmR p i) (rmC p i) i n) (fun n => n.toNat) (fun n => [(9, .v (.int .i64 n))]) (fun n G' => G') ((bk p).alone (rmR p i) (rmC p i) i) rfl ?_ ?_ (fun _ _ h => h) ?_ ?_ ?_
   ·exact FromTop.start hP
   ·exact zF
   ·rintro n hI
    exact zL
   ·exact fun _ _ _ _ h => .inl h
   rintro n hF2
   dsimp only at hF2 ⊢
   have hF1 := hF2.1
   have hF3 := hF2.2.1
   have hBl := x4 hB (by omega) hF2.2.1
   have hmb2 := uav hBl
   refine yS fun _ K14 => ?_
   refine yS fun _ K15 => ?_
   refine yR ?_
   refine yM rfl rfl ?_
   try dsimp only [St.put]
   refine ae rfl (dc rfl rfl zG trivial (by rfl)) ?_
   refine yM rfl rfl ?_
   refine yM rfl rfl ?_
   try dsimp only [St.put]
   refine ab rfl (az rfl rfl rfl (wb p (rmR p i) (rmC p i) i x n hok hx (by have := hF2.1; have := hF2.2.1; omega) hB.r) ?_)
   try dsimp only [St.put]
   refine ab rfl (az rfl rfl rfl (rm p _ _ hok (x4 hB (by have := hF2.1; omega) hF2.2.1)) ?_)
   refine aa rfl (ct rfl rfl rfl (by omega)) ?_
   refine yM rfl rfl ?_
   refine aa rfl (dp rfl rfl rfl) ?_
   refine yN ?_
   dsimp only [St.put]
   refine K15 _ ?_
   refine bc rfl (fun hc => ?_) (fun hc => ?_)
   ·replace hc := of_decide_eq_true hc
    have hnot : ¬ (bk p).most (rmR p i) (rmC p i) ≤ n + (bk p).most ((bk p).lessR (rmR p i) i n) (d9 (rmC p i) i) := by omega
    refine bi ?_
    refine K14 _ ?_
    refine cd ?_
    refine yR ?_
    refine yM rfl rfl ?_
    refine aa rfl (je rfl rfl rfl (by omega)) ?_
    refine yA rfl rfl ?_
    refine yN ?_
    dsimp only [St.put]
    have hd := FromTop.down hP hF2 hnot
    have hd1 := hd.1
    exact ⟨n - 1, by omega, hd, ⟨⟨rfl, rfl⟩, zF, zB, zN, zX⟩⟩
   replace hc := of_decide_eq_false hc
   have hnw := FromTop.stop hP hF2 (by omega)
   rw [← yd] at hnw
   subst hnw
   refine el ?_
   refine K13 _ ?_
   refine yS fun _ K16 => ?_
   refine yR ?_
   try dsimp only [St.put]
   refine ae rfl (dc rfl rfl zG trivial (by rfl)) ?_
   refine yM rfl rfl ?_
   refine yM rfl rfl ?_
   try dsimp only [St.put]
   refine ab rfl (az rfl rfl rfl (wb p (rmR p i) (rmC p i) i x (iv p i) hok hx (by have := hF2.1; have := hF2.2.1; omega) hB.r) ?_)
   try dsimp only [St.put]
   refine ab rfl (cn rfl rfl rfl zG rfl rfl (by rfl) ?_)
   refine yN ?_
   dsimp only [St.put]
   refine K16 _ ?_
   refine yR ?_
   refine yM rfl rfl ?_
   refine yM rfl rfl ?_
   try dsimp only [St.put]
   refine ab rfl (cy rfl rfl rfl (by decide) (by decide) zR (by decide) ?_)
   try dsimp only [St.put]
   refine ab rfl (j8 ([iv p i]) rfl rfl zG zE rfl rfl zA ?_ zA)
   refine yA rfl rfl ?_
   refine yN ?_
   dsimp only [St.put]
   refine K10 _ ?_
   refine yR ?_
   refine aa rfl (ct rfl rfl rfl (by omega)) ?_
   refine yM rfl rfl ?_
   refine yN ?_
   dsimp only [St.put]
   have e := vn i (iv p)
   rw [← e]
   exact ⟨i + 1, by omega, by omega, ⟨⟨rfl, rfl⟩, zF, zB, zN, zX⟩⟩
  replace hc := of_decide_eq_false hc
  obtain rfl : i = p.pages.length := by omega
  refine el ?_
  refine K6 _ ?_
  refine yS fun _ K17 => ?_
  refine yR ?_
  refine yM rfl rfl ?_
  refine yA rfl rfl ?_
  refine yA rfl rfl ?_
  refine yN ?_
  dsimp only [St.put]
  refine K17 _ ?_
  refine ay ?_
  refine gw rfl (eb (by constructor)) (eb (by constructor)) zN zS ?_ ?_
  ·rw [hV]; exact zW
  rw [hL]; exact zW
 refine yR ?_
 refine yE rfl rfl rfl ?_
 try dsimp only [St.put]
 refine ab rfl (cx rfl rfl rfl (lm n0 p) zG (by dsimp only [St.put]; omega) ?_)
 refine yX rfl rfl rfl rfl ?_
 refine yX rfl rfl rfl rfl ?_
 try dsimp only [St.put]
 refine ab rfl (cx rfl rfl rfl (rk n0 p (i2 p) (ck p) nv hL) zG (by dsimp only [St.put]; omega) ?_)
 refine yM rfl rfl ?_
 refine yX rfl rfl rfl rfl ?_
 refine yX rfl rfl rfl rfl ?_
 try dsimp only [St.put]
 refine ab rfl (dg rfl ?_)
 try dsimp only [St.put]
 refine ab rfl (cn rfl rfl rfl zG rfl rfl (by rfl) ?_)
 refine yA rfl rfl ?_
 refine yN ?_
 dsimp only [St.put]
 refine K2 _ ?_
 refine yS fun _ K18 => ?_
 refine yS fun _ K19 => ?_
 refine yR ?_
 refine yM rfl rfl ?_
 refine aa rfl (f8 rfl rfl rfl) ?_
 refine yN ?_
 dsimp only [St.put]
 refine K19 _ ?_
 refine bc rfl (fun hc => ?_) (fun hc => ?_)
 ·have hV : n7 p = [] := by unfold n7; rw [j9 hL]
  refine yS fun _ K20 => ?_
  refine yR ?_
  refine yM rfl rfl ?_
  refine yA rfl rfl ?_
  refine yA rfl rfl ?_
  refine yN ?_
  dsimp only [St.put]
  refine K20 _ ?_
  refine ay ?_
  refine gw rfl (eb (by constructor)) (eb (by constructor)) zN zS ?_ ?_
  ·rw [hV]; exact zW
  exact zW
 exact absurd (g6 hc) hL
end Go.Proofs.YtgffhbbcpgdjjaaDoor
namespace Go.Proofs.YtgffhbbcpgdjjaaDoor
set_option maxRecDepth 10000
open Go Go.RowKit Go.AB
open Go.AB.Enc (cells)
open Go.PB (aq ah PlaceD av ax aw bg am af cb ba cr c4)
set_option maxHeartbeats 1000000 in
theorem ufu (nF : Nat) (n : Nat) (hb : n ≤ 8) : uz nF eg Tryd.prog 79 [.elem [.v (.int .i64 (n : Int))]] (2 ^ n) (fun s => [.v (.int .i64 (s : Int)), lst (ei n s)]) := by
 refine ubi Tryd.func79 rfl rfl fun I hN hcl ok hG hn => ?_
 simp only [Tryd.ntmps79, List.length_cons, List.length_nil, Nat.reduceAdd, Nat.reduceSub]
 have h256 : 2 ^ n ≤ 2 ^ 8 := Nat.pow_le_pow_right (by omega) hb
 refine jw 2 ?_
 refine zQ ?_
 refine nj ?_
 dsimp only [FC.st]
 refine bv fun hlt => ?_
 dsimp only at hlt
 refine bj ?_
 try dsimp only [St.put]
 first | refine ae rfl (bw rfl rfl) ?_ | refine ae rfl (bh rfl rfl (Enc.len _)) ?_ | refine ae rfl (bh rfl rfl rfl) ?_ | refine ae rfl (ci rfl rfl zG trivial (by first | rfl | assumption)) ?_ | refine ae rfl (dc rfl rfl zG trivial (by rfl)) ?_ | refine ae rfl (dv rfl rfl zG trivial (by simp)) ?_ | refine ae rfl (bp rfl rfl zG trivial (dw (by assumption) rfl)) ?_ | refine ae rfl (bp rfl rfl zG trivial (by assumption)) ?_ | refine ae rfl (d8 rfl rfl zG trivial rfl (by assumption) rfl (by decide)) ?_ | refine ae rfl (dq rfl rfl zG (by rfl)) ?_
 refine aa rfl (uap (n := n) rfl rfl rfl (by omega)) ?_
 refine aa rfl (ar rfl (by constructor)) ?_
 refine bf ?_
 dsimp only [St.put]
 show jc _ _ _ _ _ _ _
 refine nk ok rfl ⟨rfl, rfl, zK, zN, zS, zK⟩ ?_
 refine p9 ?_
 refine jw 9 ?_
 refine zQ ?_
 refine xh (X := Nat) (fun s => s ≤ 2 ^ n) (fun s => 2 ^ n - s) (fun s => [(3, .any), (4, .any), (5, .any), (8, .v (.int .i64 (s : Int)))]) (fun s => s) 0 rfl ?_ ?_ ?_ ?_ ?_
 ·exact Nat.zero_le _
 ·exact zF
 ·rfl
 ·rintro s hI
  exact zL
 ·rintro s hI
  dsimp only at hI ⊢
  refine jw 9 ?_
  refine zQ ?_
  refine nj ?_
  dsimp only [FC.st]
  refine bv fun hlt => ?_
  dsimp only at hlt
  refine bj ?_
  refine aa rfl (dp rfl rfl rfl) ?_
  refine bf ?_
  dsimp only [St.put]
  show jc _ _ _ _ _ _ _
  refine nk ok rfl ⟨rfl, rfl, zK, zN, zS, zK⟩ ?_
  refine ni fun K1 hK1 => ?_
  refine r9 rfl (fun hc => ?_) (fun hc => ?_)
  ·replace hc := of_decide_eq_true hc
   have hs : s < 2 ^ n := by omega
   refine r8 ?_
   refine hK1 _ _ ?_
   refine ni fun K2 hK2 => ?_
   refine p9 ?_
   refine jw 9 ?_
   refine zQ ?_
   refine nj ?_
   dsimp only [FC.st]
   refine bv fun hlt => ?_
   dsimp only at hlt
   refine bj ?_
   refine aa rfl (ar rfl (by constructor)) ?_
   refine aa rfl (bq rfl (by constructor)) ?_
   refine bf ?_
   dsimp only [St.put]
   show jc _ _ _ _ _ _ _
   refine uh ?_
   refine bj ?_
   refine aa rfl (bq rfl (by constructor)) ?_
   refine bf ?_
   dsimp only [St.put]
   show jc _ _ _ _ _ _ _
   refine uh ?_
   refine o5 4 3 1 rfl (by decide) ?_
   dsimp only [List.set_cons_zero, List.set_cons_succ]
   refine br fun K3 hK3 => ?_
   refine bj ?_
   try dsimp only [St.put]
   first | refine ae rfl (bw rfl rfl) ?_ | refine ae rfl (bh rfl rfl (Enc.len _)) ?_ | refine ae rfl (bh rfl rfl rfl) ?_ | refine ae rfl (ci rfl rfl zG trivial (by first | rfl | assumption)) ?_ | refine ae rfl (dc rfl rfl zG trivial (by rfl)) ?_ | refine ae rfl (dv rfl rfl zG trivial (by simp)) ?_ | refine ae rfl (bp rfl rfl zG trivial (dw (by assumption) rfl)) ?_ | refine ae rfl (bp rfl rfl zG trivial (by assumption)) ?_ | refine ae rfl (d8 rfl rfl zG trivial rfl (by assumption) rfl (by decide)) ?_ | refine ae rfl (dq rfl rfl zG (by rfl)) ?_
   refine aa rfl (ar rfl (by constructor)) ?_
   refine bf ?_
   dsimp only [St.put]
   refine hK3 _ ?_
   refine cd ?_
   refine du 13 ?_
   refine zQ ?_
   refine fa ((aj (I.G s) I.nx (.tip (ei 0 s).length 3 1))) zX ?_
   dsimp only
   refine et (X := Nat) (fun k => k ≤ n) (fun k => n - k) (fun k => [(4, .list ((ei k s).map cells) (.tip I.nx)), (5, .any), (12, .v (.int .i64 (k : Int)))]) (fun k G' => (aj (I.G s) I.nx (.tip (ei k s).length 3 1))) 0 rfl ?_ ?_ ?_ ?_ ?_ ?_
   ·exact Nat.zero_le _
   ·exact zF
   ·exact zX
   ·rintro k hI
    exact zL
   ·rintro k hI
    exact zH
   ·rintro k hK
    dsimp only at hK ⊢
    refine br fun K4 hK4 => ?_
    refine bj ?_
    refine aa rfl (dp rfl rfl rfl) ?_
    refine bf ?_
    dsimp only [St.put]
    refine hK4 _ ?_
    refine br fun K5 hK5 => ?_
    refine bc rfl (fun hc => ?_) (fun hc => ?_)
    ·replace hc := of_decide_eq_true hc
     have hml := rq k s
     refine bi ?_
     refine hK5 _ ?_
     refine br fun K6 hK6 => ?_
     refine cd ?_
     refine br fun K7 hK7 => ?_
     refine bj ?_
     refine aa rfl (ar rfl (by constructor)) ?_
     refine aa rfl (bq rfl (by constructor)) ?_
     refine bf ?_
     dsimp only [St.put]
     refine hK7 _ ?_
     refine br fun K8 hK8 => ?_
     refine bj ?_
     refine aa rfl (ar rfl (by constructor)) ?_
     refine aa rfl (ar rfl (by constructor)) ?_
     refine aa rfl (ww (m := s) (n := k) rfl rfl rfl (by show k ≤ 64; omega) (by show (s : Int) ≤ 9223372036854775807; omega) (by decide)) ?_
     refine aa rfl (wz (m := s / 2 ^ k) rfl rfl rfl (Nat.lt_of_le_of_lt (Nat.div_le_self _ _) (by show s < 2 ^ 64; omega)) (by decide)) ?_
     refine aa rfl (eh rfl rfl rfl) ?_
     refine bf ?_
     dsimp only [St.put]
     refine hK8 _ ?_
     refine bc rfl (fun hc => ?_) (fun hc => ?_)
     ·have hb1 : s.testBit k = true := bit_eq.1 (of_decide_eq_true hc)
      refine bj ?_
      refine aa rfl (ar rfl (by constructor)) ?_
      refine aa rfl (ar rfl (by constructor)) ?_
      try dsimp only [St.put]
      refine ab rfl (cy rfl rfl rfl (by decide) (by decide) zR (by decide) ?_)
      try dsimp only [St.put]
      refine ab rfl (j8 ([(k : Int)]) rfl rfl zG zE rfl rfl zA ?_ zA)
      refine aa rfl (bq rfl (by constructor)) ?_
      refine bf ?_
      dsimp only [St.put]
      refine hK6 _ ?_
      refine bj ?_
      first | refine aa rfl (ct rfl rfl rfl (by omega)) ?_ | refine aa rfl (jf rfl rfl rfl) ?_
      refine aa rfl (ar rfl (by constructor)) ?_
      refine bf ?_
      dsimp only [St.put]
      have e := ua0 k s
      first
      | (have q : s.testBit k = true := hb1
         rw [q, cond_true] at e
         rw [← e]
         exact ⟨k + 1, by omega, by omega, ⟨⟨rfl, rfl⟩, zF, zB, zN, zX⟩⟩)
      | (have q : s.testBit k = false := hb0
         rw [q, cond_false, List.append_nil] at e
         rw [← e]
         exact ⟨k + 1, by omega, by omega, ⟨⟨rfl, rfl⟩, zF, zB, zN, zX⟩⟩)
     ·have hb0 : s.testBit k = false := by
       have := of_decide_eq_false hc
       rw [bit_eq, Bool.not_eq_true] at this
       exact this
      refine bi ?_
      refine hK6 _ ?_
      refine bj ?_
      first | refine aa rfl (ct rfl rfl rfl (by omega)) ?_ | refine aa rfl (jf rfl rfl rfl) ?_
      refine aa rfl (ar rfl (by constructor)) ?_
      refine bf ?_
      dsimp only [St.put]
      have e := ua0 k s
      first
      | (have q : s.testBit k = true := hb1
         rw [q, cond_true] at e
         rw [← e]
         exact ⟨k + 1, by omega, by omega, ⟨⟨rfl, rfl⟩, zF, zB, zN, zX⟩⟩)
      | (have q : s.testBit k = false := hb0
         rw [q, cond_false, List.append_nil] at e
         rw [← e]
         exact ⟨k + 1, by omega, by omega, ⟨⟨rfl, rfl⟩, zF, zB, zN, zX⟩⟩)
    ·replace hc := of_decide_eq_false hc
     obtain rfl : k = n := by omega
     refine uu 4 (lst (ei k s)) rfl Wk.tok ?_
     refine el ?_
     show jc _ _ _ _ _ _ _
     refine nk ok rfl ⟨rfl, rfl, zK, zN, zS, zK⟩ ?_
     refine ni fun K9 hK9 => ?_
     refine ubp ?_
     refine ow rfl (ar rfl (by constructor)) ?_
     refine ow rfl (ar rfl (by constructor)) ?_
     refine ow rfl (ar rfl (by constructor)) ?_
     try dsimp only [St.put]
     refine ubs ok (by rw [hN]; exact hs) rfl rfl rfl rfl (by rw [hcl]; rfl) ?_
     refine ow rfl (ge rfl rfl) ?_
     refine ubt ?_
     dsimp only [St.put]
     refine hK9 _ _ ?_
     refine r9 rfl (fun h => by cases h) (fun _ => ?_)
     refine r8 ?_
     refine hK2 _ _ ?_
     refine jw 9 ?_
     refine zQ ?_
     refine xg ok rfl ?_
     dsimp only [FC.st]
     refine bv fun hlt => ?_
     dsimp only at hlt
     refine bj ?_
     first | refine aa rfl (ct rfl rfl rfl (by omega)) ?_ | refine aa rfl (jf rfl rfl rfl) ?_
     refine aa rfl (ar rfl (by constructor)) ?_
     refine bf ?_
     dsimp only [St.put]
     refine ⟨⟨rfl, rfl, zK, zN, zS, zK⟩, ?_⟩
     exact ⟨s + 1, by omega, by omega, rfl, ⟨⟨rfl, rfl⟩, zF, zB, zN, zX⟩⟩
  ·replace hc := of_decide_eq_false hc
   obtain rfl : s = 2 ^ n := by omega
   refine xi ?_
   exact ⟨.inl rfl, rfl⟩
end Go.Proofs.YtgffhbbcpgdjjaaDoor
namespace Go.AB
open Go Go.RowKit
open Go.AB.Enc (cells)
open Go.PB (aq ah PlaceD av ax aw bg am af cb ba cr c4)
theorem uks {so : Nat → Bool} {n k : Nat} : ((ep so n k).getD []).length ≤ n := by
 rcases ut so n k with ⟨h, _⟩ | ⟨b, h, k⟩
 ·rw [h]; exact Nat.zero_le _
 rw [h]
 obtain ⟨s, _, _, rfl⟩ := k.get
 exact rq n s
theorem ukq {so : Nat → Bool} {n k : Nat} (h : so k = false) : ep so n (k + 1) = ep so n k := by
 cases hb : ep so n k with
 | none => rw [uc6 hb, h]; rfl
 | some b => rw [xy hb, h]; rfl
theorem ukt {so : Nat → Bool} {n k : Nat} (hb : ep so n k = none) (h : so k = true) : ep so n (k + 1) = some (ei n k) := by rw [uc6 hb, h]; rfl
theorem ukr {so : Nat → Bool} {n k : Nat} {b : List Int} (hb : ep so n k = some b) (h : so k = true) : ep so n (k + 1) = bif gy (ei n k) b then some (ei n k) else some b := by rw [xy hb, h]; rfl
theorem yl {α : Type} {l : List α} {k : Nat} {x : α} (h : l[k]? = some x) : l.take (k + 1) = l.take k ++ [x] := by rw [List.take_add_one, h]; rfl
theorem uej (p : af) (l : List Int) (z : Int) : l7 p (l ++ [z]) = l7 p l ++ bif decide (z < (p.firsts.length : Int)) then [z] else [] := by
 unfold l7
 rw [List.filter_append]
 cases h : decide (z < (p.firsts.length : Int)) <;> simp [h]
theorem ueg (p : af) (l : List Int) (z : Int) : lg p (l ++ [z]) = lg p l ++ bif decide (z < (p.firsts.length : Int)) then [] else [z - (p.firsts.length : Int)] := by
 unfold lg
 rw [List.filter_append, List.map_append]
 cases h : decide (z < (p.firsts.length : Int)) <;> simp [h]
theorem uek (p : af) (l : List Int) : (l7 p l).length ≤ l.length := List.length_filter_le _ _
theorem ueh (p : af) (l : List Int) : (lg p l).length ≤ l.length := by
 unfold lg
 rw [List.length_map]
 exact List.length_filter_le _ _
theorem uei {p : af} {z : Int} (h : z ∈ gj p) : 0 ≤ z ∧ z < (bu p : Int) := by
 unfold gj l3 at h
 rcases ut (pd p) (bu p) (2 ^ bu p) with ⟨q, _⟩ | ⟨b, q, k⟩
 ·rw [q] at h; cases h
 rw [q] at h
 obtain ⟨s, _, _, rfl⟩ := k.get
 obtain ⟨i, rfl, hi, _⟩ := membersL_mem.1 h
 omega
end Go.AB
namespace Go.Proofs.YtgffhbbcpgdjjaaDoor
set_option maxRecDepth 10000
open Go.RowKit Go.AB
open Go.AB.Enc (cells)
open Go.PB (aq ah PlaceD av ax aw bg am af cb ba cr c4)
end Go.Proofs.YtgffhbbcpgdjjaaDoor
namespace Go.AB
open Go Go.RowKit
open Go.AB.Enc (cells)
open Go.PB (aq ah PlaceD av ax aw bg am af cb ba cr c4)
theorem ukp {so : Nat → Bool} {n k : Nat} {b : List Int} (hb : ep so n k = some b) (h : gy (ei n k) b = false) : ep so n (k + 1) = some b := by rw [xy hb, h, Bool.and_false]; rfl
theorem udb {p : af} {R C : Nat → Int} (h : Bd p R C) (l : List Int) : Bd p R (jy C l) := ⟨h.r, fun j => by
 have := h.c j
 unfold jy
 cases decide ((j : Int) ∈ l)
 ·exact this
 exact ⟨Int.le_refl _, by show (0 : Int) ≤ 1000000; omega⟩, h.nr, h.np⟩
theorem uka {p : af} {m : Int} (h : ck p ≠ 0) : gx p m = ck p := by unfold gx; rw [decide_eq_false h]; rfl
theorem uj9 {p : af} {m : Int} (h : ck p = 0) (hm : m < 0) : gx p m = 2 := by unfold gx; rw [decide_eq_true h, decide_eq_true hm]; rfl
theorem ukb {p : af} {m : Int} (h : ck p = 0) (hm : ¬ m < 0) (ht : ix p = false) : gx p m = 8 := by unfold gx; rw [decide_eq_true h, decide_eq_false hm, ht]; rfl
theorem uj8 {p : af} {m : Int} (h : ck p = 0) (hm : ¬ m < 0) (ht : ix p = true) : gx p m = 0 := by unfold gx; rw [decide_eq_true h, decide_eq_false hm, ht]; rfl
end Go.AB
namespace Go.Proofs.YtgffhbbcpgdjjaaDoor
set_option maxRecDepth 10000
open Go.RowKit Go.AB
open Go.AB.Enc (cells)
open Go.PB (aq ah PlaceD av ax aw bg am af cb ba cr c4)
end Go.Proofs.YtgffhbbcpgdjjaaDoor
namespace Go.AB
open Go Go.RowKit
open Go.AB.Enc (cells)
open Go.PB (aq ah PlaceD av ax aw bg am af cb ba cr c4)
/-- whether a set is taken, and how often one was -/
def jz (so : Nat → Bool) (n k : Nat) : Bool := so k && match ep so n k with
 | none => true
 | some b => gy (ei n k) b
def kj (so : Nat → Bool) (n : Nat) : Nat → Nat
 | 0 => 0
 | k + 1 => kj so n k + (jz so n k).toNat
theorem vj {so : Nat → Bool} {n k : Nat} (h : jz so n k = true) : ep so n (k + 1) = some (ei n k) ∧ kj so n (k + 1) = kj so n k + 1 := by
 refine ⟨?_, by show kj so n k + (jz so n k).toNat = _; rw [h]; rfl⟩
 unfold jz at h
 rw [Bool.and_eq_true] at h
 cases hb : ep so n k with
 | none => exact ukt hb h.1
 | some b =>
  have h2 := h.2
  rw [hb] at h2
  have h3 : gy (ei n k) b = true := h2
  rw [ukr hb h.1, h3]; rfl
theorem vk {so : Nat → Bool} {n k : Nat} (h : jz so n k = false) : ep so n (k + 1) = ep so n k ∧ kj so n (k + 1) = kj so n k := by
 refine ⟨?_, by show kj so n k + (jz so n k).toNat = _; rw [h]; rfl⟩
 unfold jz at h
 cases hs : so k
 ·exact ukq hs
 rw [hs, Bool.true_and] at h
 cases hb : ep so n k with
 | none => rw [hb] at h; cases h
 | some b =>
  rw [hb] at h
  have h3 : gy (ei n k) b = false := h
  rw [ukp hb h3]
theorem uez {so : Nat → Bool} {n k : Nat} (h : so k = false) : jz so n k = false := by unfold jz; rw [h]; rfl
theorem ue0 {so : Nat → Bool} {n k : Nat} (h : so k = true) (hb : ep so n k = none) : jz so n k = true := by unfold jz; rw [h, hb]; rfl
theorem sy {so : Nat → Bool} {n k : Nat} {b : List Int} (h : so k = true) (hb : ep so n k = some b) : jz so n k = gy (ei n k) b := by unfold jz; rw [h, hb]; rfl
end Go.AB
namespace Go.Proofs.YtgffhbbcpgdjjaaDoor
set_option maxRecDepth 10000
open Go Go.RowKit Go.AB
open Go.AB.Enc (cells)
open Go.PB (aq ah PlaceD av ax aw bg am af cb ba cr c4)
theorem yx (m : Nat) : Pure Tryd.prog 49 [.v (.int .i64 (m : Int))] (.fn (.func 79) [.elem [.v (.int .i64 (m : Int))]]) := by
 refine dr Tryd.func49 rfl (fun m => (.fn (bn (.elem (bn .v cv)) cv))) fun G nx => ?_
 simp only [Tryd.ntmps49, List.length_cons, List.length_nil, Nat.reduceAdd, Nat.reduceSub]
 refine bv fun hlt => ?_
 dsimp only at hlt
 refine yS fun _ K1 => ?_
 refine yR ?_
 try dsimp only [St.put]
 refine yB rfl rfl rfl ?_
 refine yA rfl rfl ?_
 refine yN ?_
 dsimp only [St.put]
 refine K1 _ ?_
 refine yS fun _ K2 => ?_
 refine yR ?_
 refine aa rfl (oq rfl rfl) ?_
 refine yA rfl rfl ?_
 refine yN ?_
 dsimp only [St.put]
 refine K2 _ ?_
 refine ay ?_
 refine cg rfl (by constructor) zN zS ?_
 rfl
set_option maxHeartbeats 1000000 in
theorem ub0 (n : Nat) (m : Nat) (so : Nat → Bool) (k0 : FuncId) (caps : List C) [Fun Tryd.prog k0] (hm : m ≤ 8) (hcl : ∀ N, ∀ c ∈ caps, C.low N c) (hso : ∀ s : Nat, s < 2 ^ m → AB.Pure Tryd.prog k0 (.v (.int .i64 (s : Int)) :: lst (ei m s) :: caps) (.v (.bool (so s)))) : PureS n eg Tryd.prog 48 [.fn (.func 79) [.elem [.v (.int .i64 (m : Int))]], .fn (.func k0) caps, .fn (.func 53) []] (lst (l3 so m)) := fun G nx hF hnx => by
 refine gk (G) (nx) Tryd.func48 rfl ((bd _ _)) zN (fun hlt => zH) ?_
 simp only [Tryd.ntmps48, List.length_cons, List.length_nil, Nat.reduceAdd, Nat.reduceSub]
 refine bv fun hlt => ?_
 dsimp only at hlt
 refine yS fun _ K1 => ?_
 refine yR ?_
 try dsimp only [St.put]
 refine yB rfl rfl rfl ?_
 try dsimp only [St.put]
 refine yB rfl rfl rfl ?_
 refine yA rfl rfl ?_
 refine yN ?_
 dsimp only [St.put]
 refine K1 _ ?_
 refine yS fun _ K2 => ?_
 refine yR ?_
 try dsimp only [St.put]
 refine ab rfl (dg rfl ?_)
 refine yN ?_
 dsimp only [St.put]
 refine K2 _ ?_
 refine yS fun _ K3 => ?_
 refine yR ?_
 try dsimp only [St.put]
 refine ab rfl (dg rfl ?_)
 try dsimp only [St.put]
 refine ab rfl (cn rfl rfl rfl zG rfl rfl (by rfl) ?_)
 refine yN ?_
 dsimp only [St.put]
 refine K3 _ ?_
 refine yS fun _ K4 => ?_
 refine yS fun _ K5 => ?_
 refine qh nx 0 [lst ([] : List Int)] zG zW ?_
 refine yR ?_
 refine yM rfl rfl ?_
 refine yN ?_
 dsimp only [St.put]
 refine K5 _ ?_
 refine cd ?_
 refine du 12 ?_
 refine zQ ?_
 refine fa ((aj (aj G nx (.box (kj so m 0) [lst ((ep so m 0).getD [])])) (nx + 1) (.box (1 + kj so m 0) [.v (.bool (ep so m 0).isSome)]))) zX ?_
 dsimp only
 refine udd [12, 13] (fun k => (aj (aj G nx (.box (kj so m k) [lst ((ep so m k).getD [])])) (nx + 1) (.box (1 + kj so m k) [.v (.bool (ep so m k).isSome)]))) (fun k => [(13, lst (ei m k)), (12, .v (.int .i64 (k : Int)))]) (ufu n m hm) (fun k => zG) (by (try dsimp only); omega) rfl rfl (fun _ => rfl) ?_ ?_ ?_ (fun lr k hrk => ?_) ?_
 ·intro k
  rfl
 ·exact zX
 ·intro k
  exact zH
 ·have hbl := uks (so := so) (n := m) (k := k)
  have hml := rq m k
  refine yS fun _ K6 => ?_
  refine yR ?_
  refine yA rfl rfl ?_
  refine yN ?_
  dsimp only [St.put]
  refine K6 _ ?_
  refine yR ?_
  refine yA rfl rfl ?_
  refine yN ?_
  dsimp only [St.put]
  show AW _ _ _ _ _
  refine cd ?_
  refine yS fun _ K7 => ?_
  refine yR ?_
  refine yL rfl rfl rfl ?_
  refine yM rfl rfl ?_
  refine yM rfl rfl ?_
  try dsimp only [St.put]
  refine ab rfl (az rfl rfl rfl (hso k hrk) ?_)
  refine yM rfl rfl ?_
  refine ir (fun hs => ?_) (fun hs => ?_)
  ·have hw : so k = true := hs
   try dsimp only [St.put]
   refine ae rfl (ci rfl rfl zG trivial (by first | rfl | assumption)) ?_
   refine aa rfl (ge rfl rfl) ?_
   refine yM rfl rfl ?_
   refine ir (fun hs => ?_) (fun hs => ?_)
   ·have hb0 : ep so m k = none := by simpa using hs
    have htk := vj (ue0 hw hb0)
    refine yK rfl ?_
    refine yK rfl ?_
    refine yK rfl ?_
    refine yK rfl ?_
    refine yK rfl ?_
    refine aa rfl (bz rfl rfl (by constructor)) ?_
    refine aa rfl (bz rfl rfl (by constructor)) ?_
    refine yN ?_
    dsimp only [St.put]
    refine K7 _ ?_
    refine bc rfl (fun _ => ?_) (fun h => by cases h)
    first
    | (have hbf : gy (ei m k) b = true := (s9 _ _).symm.trans hc
       have htk := vj ((sy hw hb0).trans hbf))
    | skip
    refine yR ?_
    refine yM rfl rfl ?_
    try dsimp only [St.put]
    refine ab rfl (cn rfl rfl rfl zG rfl rfl (by rfl) ?_)
    try dsimp only [St.put]
    refine ab rfl (cn rfl rfl rfl zG rfl rfl (by rfl) ?_)
    refine yN ?_
    dsimp only [St.put]
    dsimp only [qr, sq]
    first
    | (rw [htk.1, htk.2]
       exact zX)
    | (rw [hke.1, hke.2]
       try rw [hb0]
       exact zX)
   obtain ⟨b, hb0⟩ : ∃ b, ep so m k = some b := by
     cases hb : ep so m k with
     | none => rw [hb] at hs; cases hs
     | some b => exact ⟨b, rfl⟩
   rw [hb0] at hbl
   rw [hb0]
   have hbl2 : b.length ≤ m := hbl
   refine yL rfl rfl rfl ?_
   refine yM rfl rfl ?_
   try dsimp only [St.put]
   refine ae rfl (ci rfl rfl zG trivial (by first | rfl | assumption)) ?_
   try dsimp only [St.put]
   refine ab rfl (az rfl rfl rfl (ug2 (ei m k) b (by omega) (by omega)) ?_)
   refine aa rfl (dp rfl rfl rfl) ?_
   refine aa rfl (cj rfl rfl (by constructor)) ?_
   refine aa rfl (bz rfl rfl (by constructor)) ?_
   refine yN ?_
   dsimp only [St.put]
   refine K7 _ ?_
   refine bc rfl (fun hc => ?_) (fun hc => ?_)
   ·first
    | (have hbf : gy (ei m k) b = true := (s9 _ _).symm.trans hc
       have htk := vj ((sy hw hb0).trans hbf))
    | skip
    refine yR ?_
    refine yM rfl rfl ?_
    try dsimp only [St.put]
    refine ab rfl (cn rfl rfl rfl zG rfl rfl (by rfl) ?_)
    try dsimp only [St.put]
    refine ab rfl (cn rfl rfl rfl zG rfl rfl (by rfl) ?_)
    refine yN ?_
    dsimp only [St.put]
    dsimp only [qr, sq]
    first
    | (rw [htk.1, htk.2]
       exact zX)
    | (rw [hke.1, hke.2]
       try rw [hb0]
       exact zX)
   first
   | (have hbf : gy (ei m k) b = false := (s9 _ _).symm.trans hc
      have hke := vk ((sy hw hb0).trans hbf))
   | skip
   refine bi ?_
   dsimp only [qr, sq]
   first
   | (rw [htk.1, htk.2]
      exact zX)
   | (rw [hke.1, hke.2]
      try rw [hb0]
      exact zX)
  have hw : so k = false := hs
  have hke := vk (uez (n := m) hw)
  refine yK rfl ?_
  refine yK rfl ?_
  refine yK rfl ?_
  refine yK rfl ?_
  refine yK rfl ?_
  refine yK rfl ?_
  refine yK rfl ?_
  refine yK rfl ?_
  refine yK rfl ?_
  refine aa rfl (cj rfl rfl (by constructor)) ?_
  refine yN ?_
  dsimp only [St.put]
  refine K7 _ ?_
  refine bc rfl (fun h => by cases h) (fun _ => ?_)
  first
  | (have hbf : gy (ei m k) b = false := (s9 _ _).symm.trans hc
     have hke := vk ((sy hw hb0).trans hbf))
  | skip
  refine bi ?_
  dsimp only [qr, sq]
  first
  | (rw [htk.1, htk.2]
     exact zX)
  | (rw [hke.1, hke.2]
     try rw [hb0]
     exact zX)
 dsimp only
 refine K4 _ ?_
 refine yS fun _ K8 => ?_
 refine yR ?_
 try dsimp only [St.put]
 refine ae rfl (ci rfl rfl zG trivial (by first | rfl | assumption)) ?_
 refine yA rfl rfl ?_
 refine yN ?_
 dsimp only [St.put]
 refine K8 _ ?_
 refine ay ?_
 refine cg rfl (by constructor) zN zS ?_
 rfl
theorem ug0 (p : af) (R C : Nat → Int) (a : Int) (s : Nat) (l : List Int) (h : fk p) (hB : Bd p R C) (hs : s ≤ 1000) : Pure Tryd.prog 61 [.v (.int .i64 (s : Int)), lst l, .elem (cells (fq p R C)), .elem [.v (.int .i64 a)]] (.v (.bool (decide ((bk p).f R C (fun i => s.testBit i) = a)))) := by
 refine dr Tryd.func61 rfl (fun m => .v) fun G nx => ?_
 simp only [Tryd.ntmps61, List.length_cons, List.length_nil, Nat.reduceAdd, Nat.reduceSub]
 refine bv fun hlt => ?_
 dsimp only at hlt
 refine yS fun _ K1 => ?_
 refine yR ?_
 refine yA rfl rfl ?_
 refine yN ?_
 dsimp only [St.put]
 refine K1 _ ?_
 refine yS fun _ K2 => ?_
 refine ia [(0, none), (1, none), (3, none), (2, none), (4, none), (5, none)] (fun i => [].contains i) (fun i => [2].contains i) (fun i => [1, 4, 5].contains i) [] (by kernel_rfl) (by kernel_rfl) ?_
 try dsimp only [St.put]
 refine ak rfl rfl rfl rfl (bh rfl rfl (Enc.len _)) ?_
 refine xM rfl rfl rfl rfl rfl ?_
 try dsimp only [St.put]
 refine ak rfl rfl rfl rfl (bw rfl rfl) ?_
 refine jb ?_
 try dsimp only [St.put]
 refine ki rfl rfl rfl (az rfl rfl rfl (zv p R C s h hB hs) ⟨zD, ?_⟩)
 refine ef rfl rfl rfl rfl (eh rfl rfl rfl) ?_
 refine ef rfl rfl rfl rfl (bq rfl (by constructor)) ?_
 refine ja ?_
 dsimp only [St.put]
 refine K2 _ ?_
 refine ay ?_
 refine cg rfl (by constructor) zN zS ?_
 rfl
theorem ug8 (p : af) (m : Int) (s : Int) (l : List Int) (h : fk p) (hl : l.length ≤ 1000) (hm : ∀ z ∈ l, 0 ≤ z ∧ z < (p.pages.length : Int)) : Pure Tryd.prog 50 [.v (.int .i64 s), lst l, .elem (cells (fq p (co p) (dh p))), .elem [.v (.int .i64 m)]] (.v (.bool (decide (uds p l ≤ m)))) := by
 refine dr Tryd.func50 rfl (fun m => .v) fun G nx => ?_
 simp only [Tryd.ntmps50, List.length_cons, List.length_nil, Nat.reduceAdd, Nat.reduceSub]
 refine bv fun hlt => ?_
 dsimp only at hlt
 refine yS fun _ K1 => ?_
 refine yR ?_
 refine yA rfl rfl ?_
 refine yN ?_
 dsimp only [St.put]
 refine K1 _ ?_
 refine yS fun _ K2 => ?_
 refine yR ?_
 refine yE rfl rfl rfl ?_
 try dsimp only [St.put]
 refine ab rfl (dg rfl ?_)
 try dsimp only [St.put]
 refine ab rfl (cn rfl rfl rfl zG rfl rfl (by rfl) ?_)
 refine yN ?_
 dsimp only [St.put]
 rw [show cells (fq p (co p) (dh p)) = cells (fq p (co p) (jy (dh p) (l.take 0))) by rw [List.take_zero, ud0]]
 refine K2 _ ?_
 refine yS fun _ K3 => ?_
 refine yS fun _ K4 => ?_
 refine yR ?_
 refine yM rfl rfl ?_
 refine aa rfl (cc rfl rfl (List.length_map _)) ?_
 refine yM rfl rfl ?_
 refine yN ?_
 dsimp only [St.put]
 refine K4 _ ?_
 refine cd ?_
 refine du 14 ?_
 refine zQ ?_
 refine fa ((aj G nx (.box (0 + 1) (cells (fq p (co p) (jy (dh p) (l.take 0))))))) zX ?_
 dsimp only
 refine et (X := Nat) (fun k => k ≤ l.length) (fun k => l.length - k) (fun k => [(8, .any), (9, .any), (13, .v (.int .i64 (k : Int)))]) (fun k G' => (aj G nx (.box (k + 1) (cells (fq p (co p) (jy (dh p) (l.take k))))))) 0 rfl ?_ ?_ ?_ ?_ ?_ ?_
 ·exact Nat.zero_le _
 ·exact zF
 ·exact zX
 ·rintro k hI
  exact zL
 ·rintro k hI
  exact zH
 rintro k hI
 dsimp only at hI ⊢
 refine yS fun _ K5 => ?_
 refine yR ?_
 refine aa rfl (dp rfl rfl rfl) ?_
 refine yN ?_
 dsimp only [St.put]
 refine K5 _ ?_
 refine yS fun _ K6 => ?_
 refine bc rfl (fun hc => ?_) (fun hc => ?_)
 ·replace hc := of_decide_eq_true hc
  obtain ⟨z0, hz0⟩ : ∃ z, l[k]? = some z := fl (by omega)
  have hzb := hm z0 (jh hz0)
  obtain ⟨j, rfl⟩ : ∃ j : Nat, z0 = (j : Int) := ⟨z0.toNat, by omega⟩
  have hz := hz0
  obtain ⟨x, hx⟩ : ∃ x, p.pages[j]? = some x := fl (by omega)
  have hB := udb (si h) (l.take k)
  refine bi ?_
  refine K6 _ ?_
  refine yS fun _ K7 => ?_
  refine cd ?_
  refine yS fun _ K8 => ?_
  refine yR ?_
  refine aa rfl (c5 rfl rfl rfl rfl (c7 (by assumption)) (Enc.len _)) ?_
  refine yL rfl rfl rfl ?_
  refine yA rfl rfl ?_
  refine yN ?_
  dsimp only [St.put]
  refine K8 _ ?_
  refine yR ?_
  try dsimp only [St.put]
  refine ae rfl (dc rfl rfl zG trivial (by rfl)) ?_
  refine yM rfl rfl ?_
  try dsimp only [St.put]
  refine ab rfl (az rfl rfl rfl (wb p (co p) (jy (dh p) (l.take k)) j x 0 h hx (by omega) hB.r) ?_)
  try dsimp only [St.put]
  refine ab rfl (cn rfl rfl rfl zG rfl rfl (by rfl) ?_)
  refine yN ?_
  dsimp only [St.put]
  refine K7 _ ?_
  refine yR ?_
  refine aa rfl (ct rfl rfl rfl (by omega)) ?_
  refine yM rfl rfl ?_
  refine yN ?_
  dsimp only [St.put]
  rw [uij, ← udz, ← yl hz]
  exact ⟨k + 1, by omega, by omega, ⟨⟨rfl, rfl⟩, zF, zB, zN, zX⟩⟩
 replace hc := of_decide_eq_false hc
 rw [iy (show l.length ≤ k by omega)]
 refine el ?_
 refine K3 _ ?_
 refine yS fun _ K9 => ?_
 refine ia [(0, none), (2, none), (1, none), (3, none), (4, none)] (fun i => [].contains i) (fun i => [1].contains i) (fun i => [3, 4].contains i) [nx] (by kernel_rfl) (by kernel_rfl) ?_
 try dsimp only [St.put]
 refine ak rfl rfl rfl rfl (dc rfl rfl zG (by simp) (by rfl)) ?_
 try dsimp only [St.put]
 refine ak rfl rfl rfl rfl (bw rfl rfl) ?_
 refine jb ?_
 try dsimp only [St.put]
 refine ki rfl rfl rfl (az rfl rfl rfl (rm p (co p) (jy (dh p) l) h (udb (si h) l)) ⟨zD, ?_⟩)
 refine ef rfl rfl rfl rfl (uas rfl rfl rfl) ?_
 refine ef rfl rfl rfl rfl (bq rfl (by constructor)) ?_
 refine ja ?_
 dsimp only [St.put]
 refine K9 _ ?_
 refine ay ?_
 refine cg rfl (by constructor) zN zS ?_
 rfl
theorem ze (p : af) (R Q : Nat → Int) (a : Int) (N : Nat) : ∀ c ∈ [C.elem (cells (fq p R Q)), C.elem [C.v (.int .i64 a)]], C.low N c := bn (e8 _ _) (bn (.elem (bn .v cv)) cv)
set_option maxHeartbeats 1000000 in
theorem zr (n : Nat) (p : af) : PureS n eg Tryd.prog 31 [val p] (.tup [lst (atE (ey p (ck p)) [] (l7 p (gj p))), lst (atE (ey p (ck p)) [] (lg p (gj p))), .v (.int .i64 (ey p (ck p)))]) := fun G nx hF hnx => by
 refine gk (G) (nx) Tryd.func31 rfl (.tup (bn (bd _ _) (bn (bd _ _) (bn .v cv)))) zN (fun hlt => zH) ?_
 simp only [Tryd.ntmps31, List.length_cons, List.length_nil, Nat.reduceAdd, Nat.reduceSub]
 refine bv fun hlt => ?_
 dsimp only at hlt
 refine yS fun _ K1 => ?_
 refine yR ?_
 try dsimp only [St.put]
 refine yB rfl rfl rfl ?_
 refine yA rfl rfl ?_
 refine yA rfl rfl ?_
 refine yA rfl rfl ?_
 refine yN ?_
 dsimp only [St.put]
 refine K1 _ ?_
 refine yS fun _ K2 => ?_
 by_cases hL : ey p (ck p) = 0
 ·refine yR ?_
  refine yE rfl rfl rfl ?_
  try dsimp only [St.put]
  refine ab rfl (cx rfl rfl rfl (lm n p) zG (by dsimp only [St.put]; omega) ?_)
  refine yX rfl rfl rfl rfl ?_
  refine yX rfl rfl rfl rfl ?_
  try dsimp only [St.put]
  refine ab rfl (cx rfl rfl rfl (rj n p (i2 p) (ck p) nv hL) zG (by dsimp only [St.put]; omega) ?_)
  refine yM rfl rfl ?_
  refine yX rfl rfl rfl rfl ?_
  refine yX rfl rfl rfl rfl ?_
  try dsimp only [St.put]
  refine ab rfl (dg rfl ?_)
  try dsimp only [St.put]
  refine ab rfl (cn rfl rfl rfl zG rfl rfl (by rfl) ?_)
  refine yA rfl rfl ?_
  refine yN ?_
  dsimp only [St.put]
  refine K2 _ ?_
  refine yS fun _ K3 => ?_
  refine yS fun _ K4 => ?_
  refine yR ?_
  refine yM rfl rfl ?_
  refine aa rfl (f8 rfl rfl rfl) ?_
  refine yN ?_
  dsimp only [St.put]
  refine K4 _ ?_
  refine bc rfl (fun hc => ?_) (fun hc => ?_)
  ·exact absurd hc (by decide)
  obtain ⟨h0, hTB⟩ := rz hL
  obtain ⟨hok, _⟩ := lz h0
  have hn1 := hok.nf
  have hn2 := hok.ns
  have hnr : bu p = p.firsts.length + p.seconds.length := rfl
  have hl1 := iz (bu p) (co p)
  have hB := si hok
  have h64 : 2 ^ bu p ≤ 2 ^ 6 := Nat.pow_le_pow_right (by omega) (by omega)
  have hwl : (gj p).length ≤ 6 := by
   have := uc7 (pd p) (bu p)
   show (l3 (pd p) (bu p)).length ≤ 6
   omega
  refine bi ?_
  refine K3 _ ?_
  refine yS fun _ K5 => ?_
  refine yR ?_
  try dsimp only [St.put]
  refine ae rfl (dc rfl rfl zG trivial (by rfl)) ?_
  try dsimp only [St.put]
  refine ab rfl (az rfl rfl rfl (rm p (co p) (dh p) hok hB) ?_)
  try dsimp only [St.put]
  refine ab rfl (dg rfl ?_)
  try dsimp only [St.put]
  refine ab rfl (cn rfl rfl rfl zG rfl rfl (by rfl) ?_)
  refine yN ?_
  dsimp only [St.put]
  refine K5 _ ?_
  refine fj (i := 5) rfl zG zC ?_
  refine fj (i := 6) rfl zG zC ?_
  dsimp only
  refine yS fun _ K6 => ?_
  refine yS fun _ K7 => ?_
  refine yR ?_
  refine yF rfl rfl rfl rfl ?_
  refine yL rfl rfl rfl ?_
  refine aa rfl (cc rfl rfl (List.length_map _)) ?_
  try dsimp only [St.put]
  refine ab rfl (az rfl rfl rfl (yx (ce (bu p) (co p)).length) ?_)
  refine aa rfl (oq rfl rfl) ?_
  try dsimp only [St.put]
  refine ab rfl (cx rfl rfl rfl (ub0 n (ce (bu p) (co p)).length (pd p) 61 [.elem (cells (fq p (co p) (dh p))), .elem [.v (.int .i64 ((bk p).most (co p) (dh p)))]] (by rw [hl1]; omega) (ze p _ _ _) (fun s hs => ug0 p (co p) (dh p) _ s _ hok hB (by rw [hl1] at hs; omega))) zG (by dsimp only [St.put]; omega) ?_)
  refine aa rfl (cc rfl rfl (List.length_map _)) ?_
  refine yM rfl rfl ?_
  refine yN ?_
  dsimp only [St.put]
  rw [hl1, show l3 (pd p) (bu p) = gj p from rfl]
  refine K7 _ ?_
  refine o5 2 3 1 rfl (by decide) ?_
  refine o5 3 3 1 rfl (by decide) ?_
  dsimp only [List.set_cons_zero, List.set_cons_succ]
  refine cd ?_
  refine du 30 ?_
  refine zQ ?_
  refine fa ((aj (aj G (nx + 1 + 1) (.tip (l7 p ((gj p).take 0)).length 3 1)) (nx + 1 + 1 + 1) (.tip (lg p ((gj p).take 0)).length 3 1))) zX ?_
  dsimp only
  refine et (X := Nat) (fun k => k ≤ (gj p).length) (fun k => (gj p).length - k) (fun k => [(2, .list ((l7 p ((gj p).take k)).map cells) (.tip (nx + 1 + 1))), (3, .list ((lg p ((gj p).take k)).map cells) (.tip (nx + 1 + 1 + 1))), (8, .any), (29, .v (.int .i64 (k : Int)))]) (fun k G' => (aj (aj G (nx + 1 + 1) (.tip (l7 p ((gj p).take k)).length 3 1)) (nx + 1 + 1 + 1) (.tip (lg p ((gj p).take k)).length 3 1))) 0 rfl ?_ ?_ ?_ ?_ ?_ ?_
  ·exact Nat.zero_le _
  ·exact zF
  ·exact zX
  ·rintro k hI
   exact zL
  ·rintro k hI
   exact zH
  rintro k hK
  dsimp only at hK ⊢
  refine yS fun _ K8 => ?_
  refine yR ?_
  refine aa rfl (dp rfl rfl rfl) ?_
  refine yN ?_
  dsimp only [St.put]
  refine K8 _ ?_
  refine yS fun _ K9 => ?_
  refine bc rfl (fun hc => ?_) (fun hc => ?_)
  ·replace hc := of_decide_eq_true hc
   obtain ⟨z, hz⟩ : ∃ z, (gj p)[k]? = some z := fl (by omega)
   have hzb := uei (jh hz)
   have hF3 := uej p ((gj p).take k) z
   have hS3 := ueg p ((gj p).take k) z
   rw [← yl hz] at hF3 hS3
   have hlF := uek p ((gj p).take k)
   have hlS := ueh p ((gj p).take k)
   have hlt2 : ((gj p).take k).length ≤ 6 := by rw [List.length_take]; omega
   refine bi ?_
   refine K9 _ ?_
   refine yS fun _ K10 => ?_
   refine cd ?_
   refine yS fun _ K11 => ?_
   refine yR ?_
   refine aa rfl (c5 rfl rfl rfl rfl (c7 (by assumption)) (Enc.len _)) ?_
   refine yL rfl rfl rfl ?_
   refine yA rfl rfl ?_
   refine yN ?_
   dsimp only [St.put]
   refine K11 _ ?_
   refine yS fun _ K12 => ?_
   refine yR ?_
   refine yM rfl rfl ?_
   refine yF rfl rfl rfl rfl ?_
   refine yL rfl rfl rfl ?_
   refine aa rfl (cc rfl rfl (List.length_map _)) ?_
   refine aa rfl (dp rfl rfl rfl) ?_
   refine yN ?_
   dsimp only [St.put]
   refine K12 _ ?_
   refine bc rfl (fun hc => ?_) (fun hc => ?_)
   ·have hyes := of_decide_eq_true hc
    refine yR ?_
    refine yM rfl rfl ?_
    refine yM rfl rfl ?_
    try dsimp only [St.put]
    refine ab rfl (cy rfl rfl rfl (by decide) (by decide) zR (by decide) ?_)
    try dsimp only [St.put]
    refine ab rfl (j8 ([z]) rfl rfl zG zE rfl rfl zA ?_ zA)
    refine yA rfl rfl ?_
    refine yN ?_
    dsimp only [St.put]
    refine K10 _ ?_
    refine yR ?_
    refine aa rfl (ct rfl rfl rfl (by omega)) ?_
    refine yM rfl rfl ?_
    refine yN ?_
    dsimp only [St.put]
    first
    | (have hy2 : z < (p.firsts.length : Int) := hyes
       rw [decide_eq_true hy2, cond_true] at hF3 hS3
       rw [List.append_nil] at hS3
       simp only [← hF3]
       rw [← hS3]
       exact ⟨k + 1, by omega, by omega, ⟨⟨rfl, rfl⟩, zF, zB, zN, zX⟩⟩)
    | (have hy2 : ¬ z < (p.firsts.length : Int) := hno
       rw [decide_eq_false hy2, cond_false] at hF3 hS3
       rw [List.append_nil] at hF3
       simp only [← hS3]
       rw [← hF3]
       exact ⟨k + 1, by omega, by omega, ⟨⟨rfl, rfl⟩, zF, zB, zN, zX⟩⟩)
   have hno := of_decide_eq_false hc
   refine yR ?_
   refine yM rfl rfl ?_
   refine yM rfl rfl ?_
   refine yF rfl rfl rfl rfl ?_
   refine yL rfl rfl rfl ?_
   refine aa rfl (cc rfl rfl (List.length_map _)) ?_
   refine aa rfl (je rfl rfl rfl (by omega)) ?_
   try dsimp only [St.put]
   refine ab rfl (cy rfl rfl rfl (by decide) (by decide) zR (by decide) ?_)
   try dsimp only [St.put]
   refine ab rfl (j8 ([z - (p.firsts.length : Int)]) rfl rfl zG zE rfl rfl zA ?_ zA)
   refine yA rfl rfl ?_
   refine yN ?_
   dsimp only [St.put]
   refine K10 _ ?_
   refine yR ?_
   refine aa rfl (ct rfl rfl rfl (by omega)) ?_
   refine yM rfl rfl ?_
   refine yN ?_
   dsimp only [St.put]
   first
   | (have hy2 : z < (p.firsts.length : Int) := hyes
      rw [decide_eq_true hy2, cond_true] at hF3 hS3
      rw [List.append_nil] at hS3
      simp only [← hF3]
      rw [← hS3]
      exact ⟨k + 1, by omega, by omega, ⟨⟨rfl, rfl⟩, zF, zB, zN, zX⟩⟩)
   | (have hy2 : ¬ z < (p.firsts.length : Int) := hno
      rw [decide_eq_false hy2, cond_false] at hF3 hS3
      rw [List.append_nil] at hF3
      simp only [← hS3]
      rw [← hF3]
      exact ⟨k + 1, by omega, by omega, ⟨⟨rfl, rfl⟩, zF, zB, zN, zX⟩⟩)
  replace hc := of_decide_eq_false hc
  refine el ?_
  refine K6 _ ?_
  refine yS fun _ K13 => ?_
  refine yR ?_
  refine yM rfl rfl ?_
  refine yM rfl rfl ?_
  refine yA rfl rfl ?_
  refine yA rfl rfl ?_
  refine yA rfl rfl ?_
  refine yN ?_
  dsimp only [St.put]
  refine K13 _ ?_
  refine ay ?_
  refine ub9 rfl (eb (by constructor)) (eb (by constructor)) (eb (by constructor)) zN zS ?_ ?_ ?_
  ·rw [hL, n3, iy (show (gj p).length ≤ k by omega)]; exact zW
  ·rw [hL, n3, iy (show (gj p).length ≤ k by omega)]; exact zW
  rw [hL]; exact zW
 refine yR ?_
 refine yE rfl rfl rfl ?_
 try dsimp only [St.put]
 refine ab rfl (cx rfl rfl rfl (lm n p) zG (by dsimp only [St.put]; omega) ?_)
 refine yX rfl rfl rfl rfl ?_
 refine yX rfl rfl rfl rfl ?_
 try dsimp only [St.put]
 refine ab rfl (cx rfl rfl rfl (rk n p (i2 p) (ck p) nv hL) zG (by dsimp only [St.put]; omega) ?_)
 refine yM rfl rfl ?_
 refine yX rfl rfl rfl rfl ?_
 refine yX rfl rfl rfl rfl ?_
 try dsimp only [St.put]
 refine ab rfl (dg rfl ?_)
 try dsimp only [St.put]
 refine ab rfl (cn rfl rfl rfl zG rfl rfl (by rfl) ?_)
 refine yA rfl rfl ?_
 refine yN ?_
 dsimp only [St.put]
 refine K2 _ ?_
 refine yS fun _ K14 => ?_
 refine yS fun _ K15 => ?_
 refine yR ?_
 refine yM rfl rfl ?_
 refine aa rfl (f8 rfl rfl rfl) ?_
 refine yN ?_
 dsimp only [St.put]
 refine K15 _ ?_
 refine bc rfl (fun hc => ?_) (fun hc => ?_)
 ·try replace hc := of_decide_eq_true hc
  refine yS fun _ K16 => ?_
  refine yR ?_
  refine yM rfl rfl ?_
  refine yA rfl rfl ?_
  refine yA rfl rfl ?_
  refine yA rfl rfl ?_
  refine yN ?_
  dsimp only [St.put]
  refine K16 _ ?_
  refine ay ?_
  refine ub9 rfl (eb (by constructor)) (eb (by constructor)) (eb (by constructor)) zN zS ?_ ?_ ?_
  ·rw [j9 hL]; exact zW
  ·rw [j9 hL]; exact zW
  exact zW
 exact absurd (g6 hc) hL
set_option maxHeartbeats 1000000 in
theorem wg (n : Nat) (p : af) (m : Int) : PureS n eg Tryd.prog 22 [val p, .v (.int .i64 m)] (.tup [lst (jk p m), .v (.int .i64 (gx p m))]) := fun G nx hF hnx => by
 refine gk (G) (nx) Tryd.func22 rfl (.tup (bn (bd _ _) (bn .v cv))) zN (fun hlt => zH) ?_
 simp only [Tryd.ntmps22, List.length_cons, List.length_nil, Nat.reduceAdd, Nat.reduceSub]
 refine bv fun hlt => ?_
 dsimp only at hlt
 refine yS fun _ K1 => ?_
 refine yR ?_
 try dsimp only [St.put]
 refine yB rfl rfl rfl ?_
 try dsimp only [St.put]
 refine yB rfl rfl rfl ?_
 refine yA rfl rfl ?_
 refine yA rfl rfl ?_
 refine yN ?_
 dsimp only [St.put]
 refine K1 _ ?_
 refine yS fun _ K2 => ?_
 refine yR ?_
 refine yE rfl rfl rfl ?_
 try dsimp only [St.put]
 refine ab rfl (cx rfl rfl rfl (lm n p) zG (by dsimp only [St.put]; omega) ?_)
 refine yM rfl rfl ?_
 refine yX rfl rfl rfl rfl ?_
 refine yX rfl rfl rfl rfl ?_
 refine yA rfl rfl ?_
 refine yA rfl rfl ?_
 refine yN ?_
 dsimp only [St.put]
 refine K2 _ ?_
 refine yS fun _ K3 => ?_
 refine yS fun _ K4 => ?_
 refine yR ?_
 refine yM rfl rfl ?_
 refine aa rfl (f8 rfl rfl rfl) ?_
 refine yN ?_
 dsimp only [St.put]
 refine K4 _ ?_
 refine bc rfl (fun hc => ?_) (fun hc => ?_)
 ·have h0 : ck p ≠ 0 := j2 hc
  have hE : gx p m = ck p := uka h0
  have hV : jk p m = [] := by unfold jk; rw [hE, j9 h0]
  refine yS fun _ K5 => ?_
  refine yR ?_
  refine yM rfl rfl ?_
  refine yA rfl rfl ?_
  refine yA rfl rfl ?_
  refine yN ?_
  dsimp only [St.put]
  refine K5 _ ?_
  refine ay ?_
  refine gw rfl (eb (by constructor)) (eb (by constructor)) zN zS ?_ ?_
  ·rw [hV]; exact zW
  rw [hE]; exact zW
 have h0 : ck p = 0 := g6 hc
 obtain ⟨hok, _⟩ := lz h0
 have hnp := hok.np
 refine bi ?_
 refine K3 _ ?_
 refine yS fun _ K6 => ?_
 refine yS fun _ K7 => ?_
 refine yR ?_
 refine yL rfl rfl rfl ?_
 refine aa rfl (dp rfl rfl rfl) ?_
 refine yN ?_
 dsimp only [St.put]
 refine K7 _ ?_
 refine bc rfl (fun hc => ?_) (fun hc => ?_)
 ·have hm : m < 0 := of_decide_eq_true hc
  have hE : gx p m = 2 := uj9 h0 hm
  have hV : jk p m = [] := by unfold jk; rw [hE, j9 (by decide)]
  refine yS fun _ K8 => ?_
  refine yR ?_
  refine yA rfl rfl ?_
  refine yA rfl rfl ?_
  refine yN ?_
  dsimp only [St.put]
  refine K8 _ ?_
  refine ay ?_
  refine gw rfl (eb (by constructor)) (eb (by constructor)) zN zS ?_ ?_
  ·rw [hV]; exact zW
  rw [hE]; exact zW
 have hm : ¬ m < 0 := of_decide_eq_false hc
 refine bi ?_
 refine K6 _ ?_
 refine yS fun _ K9 => ?_
 by_cases hL : ey p (ck p) = 0
 ·refine yR ?_
  refine yM rfl rfl ?_
  refine yM rfl rfl ?_
  try dsimp only [St.put]
  refine ab rfl (cx rfl rfl rfl (rj n p (i2 p) (ck p) nv hL) zG (by dsimp only [St.put]; omega) ?_)
  refine yM rfl rfl ?_
  refine yX rfl rfl rfl rfl ?_
  refine yX rfl rfl rfl rfl ?_
  try dsimp only [St.put]
  refine ab rfl (dg rfl ?_)
  try dsimp only [St.put]
  refine ab rfl (cn rfl rfl rfl zG rfl rfl (by rfl) ?_)
  refine yA rfl rfl ?_
  refine yN ?_
  dsimp only [St.put]
  refine K9 _ ?_
  refine fj (i := 8) rfl zG zC ?_
  dsimp only
  refine yS fun _ K10 => ?_
  refine yS fun _ K11 => ?_
  refine yR ?_
  refine yM rfl rfl ?_
  refine aa rfl (f8 rfl rfl rfl) ?_
  refine yN ?_
  dsimp only [St.put]
  refine K11 _ ?_
  refine bc rfl (fun hc => ?_) (fun hc => ?_)
  ·exact absurd hc (by decide)
  have hTB := (rz hL).2
  have hE : gx p m = 0 := uj8 h0 hm hTB
  have hV : jk p m = l3 (sf p m) p.pages.length := by unfold jk; rw [hE, n3]
  refine bi ?_
  refine K10 _ ?_
  refine yS fun _ K12 => ?_
  refine yR ?_
  refine yF rfl rfl rfl rfl ?_
  refine yL rfl rfl rfl ?_
  refine aa rfl (cc rfl rfl (List.length_map _)) ?_
  try dsimp only [St.put]
  refine ab rfl (az rfl rfl rfl (yx p.pages.length) ?_)
  refine aa rfl (oq rfl rfl) ?_
  try dsimp only [St.put]
  refine ab rfl (cx rfl rfl rfl (ub0 n p.pages.length (sf p m) 50 [.elem (cells (fq p (co p) (dh p))), .elem [.v (.int .i64 m)]] hnp (ze p _ _ _) (fun s _ => ug8 p m s _ hok (by have := rq p.pages.length s; omega) (fun z hz => by obtain ⟨i, rfl, hi, _⟩ := membersL_mem.1 hz; omega))) zG (by dsimp only [St.put]; omega) ?_)
  refine yA rfl rfl ?_
  refine yA rfl rfl ?_
  refine yN ?_
  dsimp only [St.put]
  refine K12 _ ?_
  refine ay ?_
  refine gw rfl (eb (by constructor)) (eb (by constructor)) zN zS ?_ ?_
  ·rw [hV]; exact zW
  rw [hE]; exact zW
 refine yR ?_
 refine yM rfl rfl ?_
 refine yM rfl rfl ?_
 try dsimp only [St.put]
 refine ab rfl (cx rfl rfl rfl (rk n p (i2 p) (ck p) nv hL) zG (by dsimp only [St.put]; omega) ?_)
 refine yM rfl rfl ?_
 refine yX rfl rfl rfl rfl ?_
 refine yX rfl rfl rfl rfl ?_
 try dsimp only [St.put]
 refine ab rfl (dg rfl ?_)
 try dsimp only [St.put]
 refine ab rfl (cn rfl rfl rfl zG rfl rfl (by rfl) ?_)
 refine yA rfl rfl ?_
 refine yN ?_
 dsimp only [St.put]
 refine K9 _ ?_
 refine fj (i := 8) rfl zG zC ?_
 dsimp only
 refine yS fun _ K13 => ?_
 refine yS fun _ K14 => ?_
 refine yR ?_
 refine yM rfl rfl ?_
 refine aa rfl (f8 rfl rfl rfl) ?_
 refine yN ?_
 dsimp only [St.put]
 refine K14 _ ?_
 refine bc rfl (fun hc => ?_) (fun hc => ?_)
 ·have hTB : ix p = false := by
   cases h : ix p
   ·rfl
   exact absurd (by rw [h0, ry, h]; rfl) hL
  have hE : gx p m = 8 := ukb h0 hm hTB
  have hV : jk p m = [] := by unfold jk; rw [hE, j9 (by decide)]
  have hL8 : ey p (ck p) = 8 := by rw [h0, ry, hTB]; rfl
  refine yS fun _ K15 => ?_
  refine yR ?_
  refine yM rfl rfl ?_
  refine yA rfl rfl ?_
  refine yA rfl rfl ?_
  refine yN ?_
  dsimp only [St.put]
  refine K15 _ ?_
  refine ay ?_
  refine gw rfl (eb (by constructor)) (eb (by constructor)) zN zS ?_ ?_
  ·rw [hV]; exact zW
  rw [hE, hL8]; exact zW
 exact absurd (g6 hc) hL
end Go.Proofs.YtgffhbbcpgdjjaaDoor
