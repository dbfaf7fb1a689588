/-
  What the walks through the program rest on: values, states, steps, calls (RdOpen, AbFW, RfLefts, QnRef, QrRef, ReAsk, RjRests, QoRef, RkTotal, RgSets, QpRef, QqRef, RlChief, SaAlive, PkGuess, SbFacts, SdSums, QsTwin).
-/
import Derived.Test.YtbbdginipiljdaaGreatDoorPartD
import Derived.Test.YtbbdginipiljdaaGreatDoorPartB
import Derived.Test.YtbbdginipiljdaaGreatDoorPartC
namespace Go.AB
open Go Go.RowKit
open Go.AB.Enc (cells)
open Go.PB (az aj PlaceD bj bl bk bw av ai c6 cv dj di)
/-- the readers that have been looked at -/
def gx (p : ai) : Nat → List bw
 | 0 => []
 | 1 => p.firsts
 | _ => p.firsts ++ p.seconds
theorem uh9 {p : ai} : ∀ {k : Nat}, k < 2 → gx p (k + 1) = gx p k ++ d7 p (decide (k = 1))
 | 0, _ => rfl
 | 1, _ => rfl
 | k + 2, h => by omega
def okR (l : List bw) : Prop := l.all gn = true ∧ (l.map (·.id)).Nodup
theorem ukh {l : List bw} {r : bw} (h : okR l) (h1 : gn r = true) (h2 : r.id ∉ l.map (·.id)) : okR (l ++ [r]) := by
 refine ⟨by rw [List.all_append, h.1]; simp [h1], ?_⟩
 rw [List.map_append, List.nodup_append]
 refine ⟨h.2, by simp, fun a ha b hb e => ?_⟩
 simp only [List.map_cons, List.map_nil, List.mem_singleton] at hb
 subst hb; subst e
 exact h2 ha
theorem uh8 {p : ai} : ∀ {k i : Nat}, k < 2 → (gx p k ++ (d7 p (decide (k = 1))).take i) <+: (p.firsts ++ p.seconds)
 | 0, i, _ => by
  show [] ++ p.firsts.take i <+: p.firsts ++ p.seconds
  rw [List.nil_append]
  exact (List.take_prefix i p.firsts).trans (List.prefix_append _ _)
 | 1, i, _ => (List.prefix_append_right_inj p.firsts).2 (List.take_prefix i p.seconds)
 | k + 2, _, h => by omega
theorem uiy {p : ai} {k i : Nat} {r : bw} (hk : k < 2) (hr : (d7 p (decide (k = 1)))[i]? = some r) (hb : gn r = false ∨ r.id ∈ (gx p k ++ (d7 p (decide (k = 1))).take i).map (·.id)) : f8 p = false := by
 have hpre := uh8 (p := p) (k := k) (i := i + 1) hk
 rw [List.take_add_one, hr, Option.toList_some, ← List.append_assoc] at hpre
 unfold f8 ju
 rcases hb with h | h
 ·have : (p.firsts ++ p.seconds).all gn = false := List.all_eq_false.2 ⟨r, hpre.subset (by simp), by rw [h]; simp⟩
  rw [this]; simp
 have : ¬ ((p.firsts ++ p.seconds).map (·.id)).Nodup := fun hn => by
  have h2 := hn.sublist (List.Sublist.map (·.id) hpre.sublist)
  rw [List.map_append, List.nodup_append] at h2
  exact h2.2.2 _ h r.id (by simp) rfl
 rw [decide_eq_false this]; simp
theorem uk5 {p : ai} {b : Bool} (h : ¬ (d7 p b).length ≤ 3) : f8 p = false := by
 unfold f8 ju
 cases b
 ·rw [decide_eq_false (show ¬ p.firsts.length ≤ 3 from h)]; simp
 rw [decide_eq_false (show ¬ p.seconds.length ≤ 3 from h)]; simp
theorem ujp {p : ai} (h : ¬ p.pages.length ≤ 8) : f8 p = false := by
 unfold f8
 rw [decide_eq_false h]; simp
theorem ulw {l : List bw} (r : bw) : ke (ir (l.map (·.id))) r.id (.v (.bool true)) = ir ((l ++ [r]).map (·.id)) := by
 funext x
 unfold ke ir
 rw [List.map_append]
 by_cases hx : x = r.id
 ·simp [hx]
 simp [hx]
/-- a side of a page is as it may be -/
def sy (p : ai) (x : av) (b : Bool) : Bool := inB (em b x) (-1) (((d7 p b).length : Int) - 1) && ie p.text x (em b x) (dm b x)
def p9 (p : ai) (last : Int) (x : av) : Bool := decide (last < x.fr) && decide (x.fr ≤ x.to) && decide (x.to < (mu p.text : Int))
def pc (p : ai) (last : Int) (x : av) : Nat → Bool
 | 0 => p9 p last x
 | k + 1 => pc p last x k && sy p x (decide (k = 1))
theorem uhv (p : ai) (last : Int) (x : av) : pc p last x 2 = mb p last x := by
 show ((p9 p last x && sy p x false) && sy p x true) = _
 unfold p9 sy mb
 cases decide (last < x.fr) <;> cases decide (x.fr ≤ x.to) <;> cases decide (x.to < (mu p.text : Int)) <;> simp [d7, em, dm, Bool.and_assoc]
/-- where proofs are opened -/
def kd (p : ai) : C := bif decide (c7 p = 0) then .elem [lst p.text, lst p.firsts, lst p.seconds, lst p.pages, lst (p.pages.map fun x => (fj p.text x : Int)), lst (p.pages.map (eb p.text)), lst (p.pages.map (er p.text))] else .v (.pointer none)
theorem uda (m : Nat) (p : ai) : C.low m (kd p) := by
 unfold kd
 cases decide (c7 p = 0)
 ·exact .v
 refine .elem fun c hc => ?_
 simp only [List.mem_cons, List.not_mem_nil, or_false] at hc
 rcases hc with rfl | rfl | rfl | rfl | rfl | rfl | rfl <;> exact cc m _
theorem zc {p : ai} (h : c7 p = 0) : kd p = .elem [lst p.text, lst p.firsts, lst p.seconds, lst p.pages, lst (p.pages.map fun x => (fj p.text x : Int)), lst (p.pages.map (eb p.text)), lst (p.pages.map (er p.text))] := by unfold kd; rw [decide_eq_true h]; rfl
theorem tj {p : ai} (h : c7 p ≠ 0) : kd p = .v (.pointer none) := by unfold kd; rw [decide_eq_false h]; rfl
theorem yg {α : Type} {l : List α} {k : Nat} {x : α} (h : l[k]? = some x) : l.take (k + 1) = l.take k ++ [x] := by rw [List.take_add_one, h]; rfl
theorem nil_len {α : Type} {l : List α} : l = [] ↔ (l.length : Int) = 0 := by
 constructor
 ·rintro rfl; rfl
 intro h; exact List.eq_nil_of_length_eq_zero (by omega)
theorem jf {t : aj} {x : av} {l : List PlaceD} {i : Nat} {q : PlaceD} (h : l[i]? = some q) : jn t x l i = (fm t q && fk t x q && (decide (i = 0) || match l[i - 1]? with | none => true | some a => nd a q)) := by unfold jn; rw [h]; rfl
theorem um0 {p : ai} (h : dq p.text = false) : c7 p = 10 := by unfold c7; rw [h]; rfl
theorem xk {p : ai} (h : dq p.text = true) (hp : f8 p = false) : c7 p = 90 := by unfold c7; rw [h, hp]; rfl
theorem um1 {p : ai} (h : dq p.text = true) (hp : f8 p = true) : c7 p = 0 := by unfold c7; rw [h, hp]; rfl
end Go.AB
namespace Go.Proofs.YtbbdginipiljdaaGreatDoor
set_option maxRecDepth 10000
open Go Go.RowKit Go.AB
open Go.AB.Enc (cells)
open Go.PB (az aj PlaceD bj bl bk bw av ai c6 cv dj di)
set_option maxHeartbeats 4000000 in
theorem qc (n : Nat) (p : ai) : ll n kx Tryz.prog 47 [val p] (.tup [kd p, .v (.int .i64 (c7 p))]) := fun G nx hF hnx => by
 refine lz (G) (nx) Tryz.func47 rfl (.tup (cp (uda _ _) (cp .v dp))) zN (fun hlt => zH) ?_
 simp only [Tryz.ntmps47, List.length_cons, List.length_nil, Nat.reduceAdd, Nat.reduceSub]
 refine bx fun hlt => ?_
 dsimp only at hlt
 refine yS fun _ K1 => ?_
 refine yR ?_
 try dsimp only [St.put]
 refine yB rfl rfl rfl ?_
 refine yA rfl rfl ?_
 refine yA rfl rfl ?_
 refine yN ?_
 dsimp only [St.put]
 refine K1 _ ?_
 refine ufo ?_
 refine yS fun _ K2 => ?_
 refine yS fun _ K3 => ?_
 refine yR ?_
 refine yF rfl rfl rfl rfl ?_
 try dsimp only [St.put]
 refine cb rfl (c := fa p.text) (i0 (cs := cells p) rfl rfl (show 1 ≤ 4 by decide)) ?_
 try dsimp only [St.put]
 refine ae rfl (ba rfl rfl rfl (uln p.text) ?_)
 refine yA rfl rfl ?_
 refine yN ?_
 dsimp only [St.put]
 refine K3 _ ?_
 refine yS fun _ K4 => ?_
 refine yR ?_
 refine yM rfl rfl ?_
 refine aa rfl (fl rfl rfl rfl) ?_
 refine yN ?_
 dsimp only [St.put]
 refine K4 _ ?_
 refine am rfl (fun hc => ?_) (fun hc => ?_)
 ·have ht : dq p.text = false := by
   have h0 := je hc
   unfold jd at h0
   cases h1 : dq p.text
   ·rfl
   rw [h1] at h0; exact absurd rfl h0
  have hE : c7 p = 10 := um0 ht
  have hR : jd p.text = 10 := by simp [jd, ht]
  refine yS fun _ K5 => ?_
  refine yR ?_
  refine yM rfl rfl ?_
  refine yA rfl rfl ?_
  refine yA rfl rfl ?_
  refine yN ?_
  dsimp only [St.put]
  refine K5 _ ?_
  refine aq ?_
  refine mh rfl (by constructor) (by constructor) zN zS ?_ ?_
  ·rw [tj (by rw [hE]; decide)]
  rw [hE, hR]
 have ht : dq p.text = true := by
  have h0 := gq hc
  unfold jd at h0
  cases h1 : dq p.text
  ·rw [h1] at h0; cases h0
  rfl
 obtain ⟨hl1, hl2, hl3⟩ := lu ht
 have hll : mu p.text ≤ 60 := u7 ht _ (Nat.le_refl _)
 refine aw ?_
 refine K2 _ ?_
 refine yS fun _ K6 => ?_
 refine yR ?_
 refine yF rfl rfl rfl rfl ?_
 try dsimp only [St.put]
 refine cb rfl (c := fa p.text) (i0 (cs := cells p) rfl rfl (show 1 ≤ 4 by decide)) ?_
 try dsimp only [St.put]
 refine ae rfl (ba rfl rfl rfl (uj2 p.text ht) ?_)
 refine yM rfl rfl ?_
 refine yX rfl rfl rfl rfl ?_
 refine yX rfl rfl rfl rfl ?_
 refine yA rfl rfl ?_
 refine yA rfl rfl ?_
 refine yN ?_
 dsimp only [St.put]
 refine K6 _ ?_
 refine yS fun _ K7 => ?_
 refine yR ?_
 try dsimp only [St.put]
 refine ae rfl (uai (α := Int) rfl ?_)
 refine yA rfl rfl ?_
 refine yN ?_
 dsimp only [St.put]
 refine K7 _ ?_
 refine yS fun _ K8 => ?_
 refine yS fun _ K9 => ?_
 refine yR ?_
 try dsimp only [St.put]
 refine cb rfl (nh (n := 6) (m := n) rfl rfl zG rfl) ?_
 refine yM rfl rfl ?_
 refine yN ?_
 dsimp only [St.put]
 refine K9 _ ?_
 refine ay ?_
 refine ci 38 ?_
 refine zQ ?_
 refine c4 (ah G nx (iv Tryz.prog 3 0 fun _ => none)) zX ?_
 dsimp only
 refine cz (X := Nat) (fun k => k ≤ 2 ∧ okR (gx p k) ∧ ((0 < k → p.firsts.length ≤ 3) ∧ (1 < k → p.seconds.length ≤ 3))) (fun k => 2 - k) (fun k => [(9, .any), (11, .any), (37, .v (.int .i64 (k : Int)))]) (fun k G' => (ah G (nx) (iv Tryz.prog 3 (((gx p k).length)) (ir (((gx p k)).map (·.id)))))) 0 rfl ?_ ?_ ?_ ?_ ?_ ?_
 ·exact ⟨by omega, ⟨rfl, List.nodup_nil⟩, fun h => absurd h (Nat.lt_irrefl _), fun h => by omega⟩
 ·exact zF
 ·rw [show ir ((gx p 0).map (·.id)) = fun _ => none from ud8]
  exact zX
 ·rintro k hI
  exact (by (try dsimp only); repeat' (first | exact trivial | refine ⟨?_, ?_⟩ | exact .v | exact .any | refine .elem ?_ | exact cc _ _ | exact fp _ _ | exact eh _ _ | exact fy _ (by (try dsimp only); omega) | exact .box (by (try dsimp only); omega) | exact ff | exact dp | exact iu (jw _ _) | refine f5 ?_ ?_ | exact .arr (by (try dsimp only); omega) | exact .own (by (try dsimp only); omega) | exact .map (by (try dsimp only); omega) | exact e8 _ | refine cp ?_ ?_ | exact cc _ _))
 ·rintro k hI
  exact (by (repeat' (refine mf ?_ (by (try dsimp only); omega) ?_)); all_goals (first | exact mg zS | (repeat' (first | exact trivial | refine ⟨?_, ?_⟩ | exact .v | exact .any | refine .elem ?_ | exact cc _ _ | exact fp _ _ | exact eh _ _ | exact fy _ (by (try dsimp only); omega) | exact .box (by (try dsimp only); omega) | exact ff | exact dp | exact iu (jw _ _) | refine f5 ?_ ?_ | exact .arr (by (try dsimp only); omega) | exact .own (by (try dsimp only); omega) | exact .map (by (try dsimp only); omega) | exact e8 _ | refine cp ?_ ?_ | exact cc _ _))))
 rintro k hI
 dsimp only at hI ⊢
 refine yS fun _ K10 => ?_
 refine yR ?_
 refine aa rfl (cg rfl rfl rfl) ?_
 refine yN ?_
 dsimp only [St.put]
 refine K10 _ ?_
 refine yS fun _ K11 => ?_
 refine am rfl (fun hc => ?_) (fun hc => ?_)
 ·replace hc := of_decide_eq_true hc
  have hk : k < 2 := by omega
  refine aw ?_
  refine K11 _ ?_
  refine yS fun _ K12 => ?_
  refine ay ?_
  refine yS fun _ K13 => ?_
  refine yR ?_
  refine aa rfl (wj (k := k) (m := 2) (sz := 3) rfl rfl rfl rfl hk (vf hk)) ?_
  try dsimp only [St.put]
  refine ae rfl (dd rfl ?_)
  try dsimp only [St.put]
  refine ae rfl (cn rfl rfl rfl zG rfl rfl (by rfl) ?_)
  refine yN ?_
  dsimp only [St.put]
  refine K13 _ ?_
  refine fq (i := 9) rfl zG zC ?_
  dsimp only
  refine yS fun _ K14 => ?_
  refine yS fun _ K15 => ?_
  refine yR ?_
  refine yF rfl rfl rfl rfl ?_
  refine yL rfl rfl rfl ?_
  refine yE rfl rfl rfl ?_
  try dsimp only [St.put]
  refine ae rfl (ba rfl rfl rfl (p7 (decide (k = 1)) p) ?_)
  refine aa rfl (bg rfl rfl (List.length_map _)) ?_
  refine aa rfl (iq rfl rfl rfl) ?_
  refine yN ?_
  dsimp only [St.put]
  refine K15 _ ?_
  refine am rfl (fun hc => ?_) (fun hc => ?_)
  ·have hs3 : ¬ (d7 p (decide (k = 1))).length ≤ 3 := by
    have := of_decide_eq_true hc
    omega
   have hE : c7 p = 90 := xk ht (uk5 hs3)
   refine yS fun _ K16 => ?_
   refine yR ?_
   refine yA rfl rfl ?_
   refine yA rfl rfl ?_
   refine yN ?_
   dsimp only [St.put]
   refine K16 _ ?_
   refine aq ?_
   refine mh rfl (by constructor) (by constructor) zN zS ?_ ?_
   ·rw [tj (by rw [hE]; decide)]
   rw [hE]
  have hs3 : (d7 p (decide (k = 1))).length ≤ 3 := by
   have := of_decide_eq_false hc
   omega
  refine aw ?_
  refine K14 _ ?_
  refine yS fun _ K17 => ?_
  refine yR ?_
  refine yF rfl rfl rfl rfl ?_
  refine yL rfl rfl rfl ?_
  refine yE rfl rfl rfl ?_
  try dsimp only [St.put]
  refine ae rfl (ba rfl rfl rfl (p7 (decide (k = 1)) p) ?_)
  refine aa rfl (bg rfl rfl (List.length_map _)) ?_
  refine yM rfl rfl ?_
  refine yN ?_
  dsimp only [St.put]
  rw [show ir ((gx p k).map (·.id)) = ir ((gx p k ++ (d7 p (decide (k = 1))).take 0).map (·.id)) by simp]
  refine K17 _ ?_
  refine ay ?_
  refine ci 52 ?_
  refine zQ ?_
  refine c4 ((ah G (nx) (iv Tryz.prog 3 (((gx p k).length)) (ir (((gx p k ++ (d7 p (decide (k = 1))).take 0)).map (·.id)))))) zX ?_
  dsimp only
  refine cz (X := Nat) (fun i => i ≤ (d7 p (decide (k = 1))).length ∧ okR (gx p k ++ (d7 p (decide (k = 1))).take i)) (fun i => (d7 p (decide (k = 1))).length - i) (fun i => [(11, .any), (51, .v (.int .i64 (i : Int)))]) (fun i G' => (ah G (nx) (iv Tryz.prog 3 (((gx p k ++ (d7 p (decide (k = 1))).take i).length)) (ir (((gx p k ++ (d7 p (decide (k = 1))).take i)).map (·.id)))))) 0 rfl ?_ ?_ ?_ ?_ ?_ ?_
  ·exact ⟨Nat.zero_le _, by simpa using hI.2.1⟩
  ·exact zF
  ·rw [show (gx p k ++ (d7 p (decide (k = 1))).take 0).length = (gx p k).length by simp]
   exact zX
  ·rintro i hI
   exact (by (try dsimp only); repeat' (first | exact trivial | refine ⟨?_, ?_⟩ | exact .v | exact .any | refine .elem ?_ | exact cc _ _ | exact fp _ _ | exact eh _ _ | exact fy _ (by (try dsimp only); omega) | exact .box (by (try dsimp only); omega) | exact ff | exact dp | exact iu (jw _ _) | refine f5 ?_ ?_ | exact .arr (by (try dsimp only); omega) | exact .own (by (try dsimp only); omega) | exact .map (by (try dsimp only); omega) | exact e8 _ | refine cp ?_ ?_ | exact cc _ _))
  ·rintro i hI
   exact (by (repeat' (refine mf ?_ (by (try dsimp only); omega) ?_)); all_goals (first | exact mg zS | (repeat' (first | exact trivial | refine ⟨?_, ?_⟩ | exact .v | exact .any | refine .elem ?_ | exact cc _ _ | exact fp _ _ | exact eh _ _ | exact fy _ (by (try dsimp only); omega) | exact .box (by (try dsimp only); omega) | exact ff | exact dp | exact iu (jw _ _) | refine f5 ?_ ?_ | exact .arr (by (try dsimp only); omega) | exact .own (by (try dsimp only); omega) | exact .map (by (try dsimp only); omega) | exact e8 _ | refine cp ?_ ?_ | exact cc _ _))))
  rintro i hJ
  dsimp only at hJ ⊢
  refine yS fun _ K18 => ?_
  refine yR ?_
  refine aa rfl (cg rfl rfl rfl) ?_
  refine yN ?_
  dsimp only [St.put]
  refine K18 _ ?_
  refine yS fun _ K19 => ?_
  refine am rfl (fun hc => ?_) (fun hc => ?_)
  ·replace hc := of_decide_eq_true hc
   obtain ⟨r, hr⟩ : ∃ r, (d7 p (decide (k = 1)))[i]? = some r := da (by omega)
   obtain ⟨L, hL⟩ : ∃ L, gx p k ++ (d7 p (decide (k = 1))).take i = L := ⟨_, rfl⟩
   refine aw ?_
   refine K19 _ ?_
   refine yS fun _ K20 => ?_
   refine ay ?_
   refine yS fun _ K21 => ?_
   refine yR ?_
   refine aa rfl (bn rfl rfl rfl rfl (bi (by assumption)) (Enc.len _)) ?_
   refine yE rfl rfl rfl ?_
   try dsimp only [St.put]
   refine ae rfl (dd rfl ?_)
   try dsimp only [St.put]
   refine ae rfl (cn rfl rfl rfl zG rfl rfl (by rfl) ?_)
   refine yN ?_
   dsimp only [St.put]
   refine K21 _ ?_
   refine fq (i := 11) rfl zG zC ?_
   dsimp only
   refine yS fun _ K22 => ?_
   refine ci 52 ?_
   refine zQ ?_
   refine ki (X := Bool) (fun d => d = !(gn r && !decide (r.id ∈ (gx p k ++ (d7 p (decide (k = 1))).take i).map (·.id)))) (fun d => [(72, .v (.bool d))]) (fun d G' => G') rfl ?_ (fun _ _ _ _ h => .inl h) ?_ ?_
   ·rintro d hI
    exact (by (try dsimp only); repeat' (first | exact trivial | refine ⟨?_, ?_⟩ | exact .v | exact .any | refine .elem ?_ | exact cc _ _ | exact fp _ _ | exact eh _ _ | exact fy _ (by (try dsimp only); omega) | exact .box (by (try dsimp only); omega) | exact ff | exact dp | exact iu (jw _ _) | refine f5 ?_ ?_ | exact .arr (by (try dsimp only); omega) | exact .own (by (try dsimp only); omega) | exact .map (by (try dsimp only); omega) | exact e8 _ | refine cp ?_ ?_ | exact cc _ _))
   ·refine yR ?_
    refine yF rfl rfl rfl rfl ?_
    refine yL rfl rfl rfl ?_
    try dsimp only [St.put]
    refine ae rfl (eg rfl rfl rfl (by decide) (by decide) zR (by decide) ?_)
    try dsimp only [St.put]
    refine ae rfl (ba rfl rfl rfl (ou _ _ [_]) ?_)
    refine aa rfl (dr rfl rfl) ?_
    refine yM rfl rfl ?_
    refine ei (fun hs => ?_) (fun hs => ?_)
    ·have h5 : inB r.id 0 9999 = false := by rw [gr] at hs; simpa using hs
     refine yK rfl ?_
     refine yK rfl ?_
     refine yK rfl ?_
     refine yK rfl ?_
     refine aa rfl (cy rfl rfl (by constructor)) ?_
     refine yM rfl rfl ?_
     refine yK rfl ?_
     refine yK rfl ?_
     refine yK rfl ?_
     refine yK rfl ?_
     refine yK rfl ?_
     refine aa rfl (cy rfl rfl (by constructor)) ?_
     refine yN ?_
     dsimp only [St.put]
     refine ⟨_, ?_, ⟨⟨rfl, rfl⟩, zF, zB, zN, zX⟩⟩
     unfold gn
     first
     | (rw [h5]; simp; done)
     | (rw [decide_eq_true h11]; simp; done)
     | (rw [h5, decide_eq_false h11, gr]; simp)
    have h5 : inB r.id 0 9999 = true := by rw [gr] at hs; simpa using hs
    refine yM rfl rfl ?_
    refine yF rfl rfl rfl rfl ?_
    refine yL rfl rfl rfl ?_
    try dsimp only [St.put]
    refine cb rfl (vj r.id rfl rfl zG trivial rfl (ud9 _ _)) ?_
    refine aa rfl (cm rfl rfl (by constructor)) ?_
    refine yM rfl rfl ?_
    refine ei (fun hs => ?_) (fun hs => ?_)
    ·have h11 := of_decide_eq_true hs
     refine yK rfl ?_
     refine yK rfl ?_
     refine yK rfl ?_
     refine yK rfl ?_
     refine yK rfl ?_
     refine aa rfl (cy rfl rfl (by constructor)) ?_
     refine yN ?_
     dsimp only [St.put]
     refine ⟨_, ?_, ⟨⟨rfl, rfl⟩, zF, zB, zN, zX⟩⟩
     unfold gn
     first
     | (rw [h5]; simp; done)
     | (rw [decide_eq_true h11]; simp; done)
     | (rw [h5, decide_eq_false h11, gr]; simp)
    have h11 := of_decide_eq_false hs
    refine yF rfl rfl rfl rfl ?_
    refine yL rfl rfl rfl ?_
    try dsimp only [St.put]
    refine ae rfl (eg rfl rfl rfl (by decide) (by decide) zR (by decide) ?_)
    try dsimp only [St.put]
    refine ae rfl (ba rfl rfl rfl (ou _ _ [_]) ?_)
    refine aa rfl (dr rfl rfl) ?_
    refine aa rfl (cm rfl rfl (by constructor)) ?_
    refine yN ?_
    dsimp only [St.put]
    refine ⟨_, ?_, ⟨⟨rfl, rfl⟩, zF, zB, zN, zX⟩⟩
    unfold gn
    first
    | (rw [h5]; simp; done)
    | (rw [decide_eq_true h11]; simp; done)
    | (rw [h5, decide_eq_false h11, gr]; simp)
   rintro d hst
   dsimp only at hst ⊢
   refine am rfl (fun hc => ?_) (fun hc => ?_)
   ·have hbad : gn r = false ∨ r.id ∈ (gx p k ++ (d7 p (decide (k = 1))).take i).map (·.id) := by
     rw [hc] at hst
     cases h1 : gn r
     ·exact .inl rfl
     rw [h1] at hst
     right
     exact Classical.byContradiction fun h2 => by rw [decide_eq_false h2] at hst; cases hst
    have hE : c7 p = 90 := xk ht (uiy hk hr hbad)
    refine yS fun _ K24 => ?_
    refine yR ?_
    refine yA rfl rfl ?_
    refine yA rfl rfl ?_
    refine yN ?_
    dsimp only [St.put]
    refine K24 _ ?_
    refine aq ?_
    refine mh rfl (by constructor) (by constructor) zN zS ?_ ?_
    ·rw [tj (by rw [hE]; decide)]
    rw [hE]
   have hgood : gn r = true ∧ r.id ∉ (gx p k ++ (d7 p (decide (k = 1))).take i).map (·.id) := by
    rw [hc] at hst
    cases h1 : gn r
    ·rw [h1] at hst; cases hst
    rw [h1] at hst
    exact ⟨rfl, fun h2 => by rw [decide_eq_true h2] at hst; cases hst⟩
   refine aw ?_
   refine K22 _ ?_
   refine yR ?_
   refine yM rfl rfl ?_
   refine yF rfl rfl rfl rfl ?_
   refine yL rfl rfl rfl ?_
   try dsimp only [St.put]
   refine ae rfl (uh (r.id) rfl rfl rfl zG rfl ((show ke (ir ((gx p k ++ (d7 p (decide (k = 1))).take i).map (·.id))) r.id (.v (.bool true)) = ir ((gx p k ++ (d7 p (decide (k = 1))).take (i + 1)).map (·.id)) from by rw [yg hr, ← List.append_assoc]; exact ulw r)) ?_)
   refine yN ?_
   dsimp only [St.put]
   refine K20 _ ?_
   refine yR ?_
   refine aa rfl (bp rfl rfl rfl (by omega)) ?_
   refine yM rfl rfl ?_
   refine yN ?_
   dsimp only [St.put]
   rw [show (gx p k ++ (d7 p (decide (k = 1))).take i).length + 1 = (gx p k ++ (d7 p (decide (k = 1))).take (i + 1)).length by rw [yg hr, ← List.append_assoc, List.length_append (bs := [r])]; rfl]
   exact ⟨i + 1, by omega, ⟨by omega, by rw [yg hr, ← List.append_assoc]; exact ukh hJ.2 hgood.1 hgood.2⟩, ⟨⟨rfl, rfl⟩, zF, zB, zN, zX⟩⟩
  replace hc := of_decide_eq_false hc
  refine cr ?_
  refine K12 _ ?_
  refine yR ?_
  refine aa rfl (bp rfl rfl rfl (by omega)) ?_
  refine yM rfl rfl ?_
  refine yN ?_
  dsimp only [St.put]
  rw [show gx p k ++ (d7 p (decide (k = 1))).take i = gx p (k + 1) by rw [uh9 hk, el (by omega)]] at hJ ⊢
  exact ⟨k + 1, by omega, ⟨by omega, hJ.2, by
   have h3 := hI.2.2
   by_cases e : k = 0
   ·subst e; exact ⟨fun _ => hs3, fun h => by omega⟩
   have e1 : k = 1 := by omega
   subst e1; exact ⟨fun _ => h3.1 (by omega), fun _ => hs3⟩⟩, ⟨⟨rfl, rfl⟩, zF, zB, zN, zX⟩⟩
 replace hc := of_decide_eq_false hc
 obtain rfl : k = 2 := by omega
 have hRB : ju p = true := by
  unfold ju
  have h2 := hI.2.1
  have h3 := hI.2.2
  rw [decide_eq_true (h3.1 (by omega)), decide_eq_true (h3.2 (by omega)), show (p.firsts ++ p.seconds).all gn = true from h2.1, decide_eq_true (show ((p.firsts ++ p.seconds).map (·.id)).Nodup from h2.2)]; rfl
 have hn1 : p.firsts.length ≤ 3 := hI.2.2.1 (by omega)
 have hn2 : p.seconds.length ≤ 3 := hI.2.2.2 (by omega)
 have hsl : ∀ b, (d7 p b).length ≤ 3 := fun b => by cases b; exact hn1; exact hn2
 refine cr ?_
 refine K8 _ ?_
 refine yS fun _ K25 => ?_
 refine yS fun _ K26 => ?_
 refine yR ?_
 refine yF rfl rfl rfl rfl ?_
 refine yL rfl rfl rfl ?_
 refine aa rfl (bg rfl rfl (List.length_map _)) ?_
 refine aa rfl (iq rfl rfl rfl) ?_
 refine yN ?_
 dsimp only [St.put]
 refine K26 _ ?_
 refine am rfl (fun hc => ?_) (fun hc => ?_)
 ·have hnp : ¬ p.pages.length ≤ 8 := by
   have := of_decide_eq_true hc
   omega
  have hE : c7 p = 90 := xk ht (ujp hnp)
  refine yS fun _ K27 => ?_
  refine yR ?_
  refine yA rfl rfl ?_
  refine yA rfl rfl ?_
  refine yN ?_
  dsimp only [St.put]
  refine K27 _ ?_
  refine aq ?_
  refine mh rfl (by constructor) (by constructor) zN zS ?_ ?_
  ·rw [tj (by rw [hE]; decide)]
  rw [hE]
 have hnp : p.pages.length ≤ 8 := by
  have := of_decide_eq_false hc
  omega
 refine aw ?_
 refine K25 _ ?_
 refine yS fun _ K28 => ?_
 refine yR ?_
 refine yE rfl rfl rfl ?_
 refine aa rfl (gd rfl rfl) ?_
 try dsimp only [St.put]
 refine ae rfl (uak rfl rfl ?_)
 refine yA rfl rfl ?_
 refine yN ?_
 dsimp only [St.put]
 refine K28 _ ?_
 refine n5 (nx + 1) 4 _ _ 3 1 zG rfl (by decide) ?_
 refine n5 (nx + 1) 5 _ _ 56 1 zG rfl (by decide) ?_
 refine n5 (nx + 1) 6 _ _ 56 1 zG rfl (by decide) ?_
 dsimp only [List.set_cons_zero, List.set_cons_succ]
 refine yS fun _ K29 => ?_
 refine yR ?_
 refine yA rfl rfl ?_
 refine yN ?_
 dsimp only [St.put]
 refine K29 _ ?_
 refine yS fun _ K30 => ?_
 refine yR ?_
 refine yA rfl rfl ?_
 refine yN ?_
 dsimp only [St.put]
 refine K30 _ ?_
 refine yS fun _ K31 => ?_
 refine ufr ?_
 refine K31 _ ?_
 refine yS fun _ K32 => ?_
 refine yS fun _ K33 => ?_
 refine yR ?_
 refine yF rfl rfl rfl rfl ?_
 refine yL rfl rfl rfl ?_
 refine aa rfl (bg rfl rfl (List.length_map _)) ?_
 refine yM rfl rfl ?_
 refine yN ?_
 dsimp only [St.put]
 refine K33 _ ?_
 refine ay ?_
 refine ci 89 ?_
 refine zQ ?_
 refine c4 ((ah (ah (ah (ah G (nx + 1) (.box (0 + 0 + 0) [lst p.text, lst p.firsts, lst p.seconds, lst p.pages, .list (((p.pages.take 0).map fun x => (fj p.text x : Int)).map cells) (.tip (nx + 1 + 1)), .list (((p.pages.take 0).map (eb p.text)).map cells) (.tip (nx + 1 + 1 + 1)), .list (((p.pages.take 0).map (er p.text)).map cells) (.tip (nx + 1 + 1 + 1 + 1))])) (nx + 1 + 1) (.tip ((p.pages.take 0).map fun x => (fj p.text x : Int)).length 3 1)) (nx + 1 + 1 + 1) (.tip ((p.pages.take 0).map (eb p.text)).length 56 1)) (nx + 1 + 1 + 1 + 1) (.tip ((p.pages.take 0).map (er p.text)).length 56 1))) zX ?_
 dsimp only
 refine cz (X := Nat) (fun j => j ≤ p.pages.length ∧ qa p j = true) (fun j => p.pages.length - j) (fun j => [(13, .v (.int .i64 (il p.pages j))), (16, .any), (18, .any), (19, .any), (20, .any), (21, .any), (22, .any), (88, .v (.int .i64 (j : Int)))]) (fun j G' => (ah (ah (ah (ah G (nx + 1) (.box (j + j + j) [lst p.text, lst p.firsts, lst p.seconds, lst p.pages, .list (((p.pages.take j).map fun x => (fj p.text x : Int)).map cells) (.tip (nx + 1 + 1)), .list (((p.pages.take j).map (eb p.text)).map cells) (.tip (nx + 1 + 1 + 1)), .list (((p.pages.take j).map (er p.text)).map cells) (.tip (nx + 1 + 1 + 1 + 1))])) (nx + 1 + 1) (.tip ((p.pages.take j).map fun x => (fj p.text x : Int)).length 3 1)) (nx + 1 + 1 + 1) (.tip ((p.pages.take j).map (eb p.text)).length 56 1)) (nx + 1 + 1 + 1 + 1) (.tip ((p.pages.take j).map (er p.text)).length 56 1))) 0 rfl ?_ ?_ ?_ ?_ ?_ ?_
 ·exact ⟨Nat.zero_le _, rfl⟩
 ·exact zF
 ·exact zX
 ·rintro j hI
  exact (by (try dsimp only); repeat' (first | exact trivial | refine ⟨?_, ?_⟩ | exact .v | exact .any | refine .elem ?_ | exact cc _ _ | exact fp _ _ | exact eh _ _ | exact fy _ (by (try dsimp only); omega) | exact .box (by (try dsimp only); omega) | exact ff | exact dp | exact iu (jw _ _) | refine f5 ?_ ?_ | exact .arr (by (try dsimp only); omega) | exact .own (by (try dsimp only); omega) | exact .map (by (try dsimp only); omega) | exact e8 _ | refine cp ?_ ?_ | exact cc _ _))
 ·rintro j hI
  exact (by (repeat' (refine mf ?_ (by (try dsimp only); omega) ?_)); all_goals (first | exact mg zS | (repeat' (first | exact trivial | refine ⟨?_, ?_⟩ | exact .v | exact .any | refine .elem ?_ | exact cc _ _ | exact fp _ _ | exact eh _ _ | exact fy _ (by (try dsimp only); omega) | exact .box (by (try dsimp only); omega) | exact ff | exact dp | exact iu (jw _ _) | refine f5 ?_ ?_ | exact .arr (by (try dsimp only); omega) | exact .own (by (try dsimp only); omega) | exact .map (by (try dsimp only); omega) | exact e8 _ | refine cp ?_ ?_ | exact cc _ _))))
 rintro j hK
 dsimp only at hK ⊢
 refine yS fun _ K34 => ?_
 refine yR ?_
 refine aa rfl (cg rfl rfl rfl) ?_
 refine yN ?_
 dsimp only [St.put]
 refine K34 _ ?_
 refine yS fun _ K35 => ?_
 refine am rfl (fun hc => ?_) (fun hc => ?_)
 ·replace hc := of_decide_eq_true hc
  obtain ⟨x, hx⟩ : ∃ x, p.pages[j]? = some x := da (by omega)
  refine aw ?_
  refine K35 _ ?_
  refine yS fun _ K36 => ?_
  refine ay ?_
  refine yS fun _ K37 => ?_
  refine yR ?_
  refine aa rfl (bn rfl rfl rfl rfl (bi (by assumption)) (Enc.len _)) ?_
  refine yE rfl rfl rfl ?_
  try dsimp only [St.put]
  refine ae rfl (dd rfl ?_)
  try dsimp only [St.put]
  refine ae rfl (cn rfl rfl rfl zG rfl rfl (by rfl) ?_)
  refine yN ?_
  dsimp only [St.put]
  refine K37 _ ?_
  refine fq (i := 16) rfl zG zC ?_
  dsimp only
  refine ci 89 ?_
  refine zQ ?_
  refine ki (X := Bool) (fun d0 => d0 = p9 p (il p.pages j) x) (fun d0 => [(14, .v (.bool d0))]) (fun d0 G' => G') rfl ?_ (fun _ _ _ _ h => .inl h) ?_ ?_
  ·rintro d0 hI
   exact (by (try dsimp only); repeat' (first | exact trivial | refine ⟨?_, ?_⟩ | exact .v | exact .any | refine .elem ?_ | exact cc _ _ | exact fp _ _ | exact eh _ _ | exact fy _ (by (try dsimp only); omega) | exact .box (by (try dsimp only); omega) | exact ff | exact dp | exact iu (jw _ _) | refine f5 ?_ ?_ | exact .arr (by (try dsimp only); omega) | exact .own (by (try dsimp only); omega) | exact .map (by (try dsimp only); omega) | exact e8 _ | refine cp ?_ ?_ | exact cc _ _))
  ·refine yR ?_
   refine yF rfl rfl rfl rfl ?_
   refine yL rfl rfl rfl ?_
   refine yM rfl rfl ?_
   refine aa rfl (iq rfl rfl rfl) ?_
   refine yM rfl rfl ?_
   refine ei (fun hs => ?_) (fun hs => ?_)
   ·have z1 : il p.pages j < x.fr := of_decide_eq_true hs
    refine yF rfl rfl rfl rfl ?_
    refine yL rfl rfl rfl ?_
    refine yF rfl rfl rfl rfl ?_
    refine yL rfl rfl rfl ?_
    refine aa rfl (wh rfl rfl rfl) ?_
    refine aa rfl (cy rfl rfl (by constructor)) ?_
    refine yM rfl rfl ?_
    refine ei (fun hs => ?_) (fun hs => ?_)
    ·have z2 : x.fr ≤ x.to := of_decide_eq_true hs
     refine yF rfl rfl rfl rfl ?_
     refine yL rfl rfl rfl ?_
     refine yM rfl rfl ?_
     refine aa rfl (cg rfl rfl rfl) ?_
     refine aa rfl (cy rfl rfl (by constructor)) ?_
     refine yA rfl rfl ?_
     refine yN ?_
     dsimp only [St.put]
     refine ⟨_, ?_, ⟨⟨rfl, rfl⟩, zF, zB, zN, zX⟩⟩
     unfold p9
     first
     | (simp [z1]; done)
     | (simp [z1, z2]; done)
     | (simp [z1]; omega)
    have z2 : ¬ x.fr ≤ x.to := of_decide_eq_false hs
    refine yK rfl ?_
    refine yK rfl ?_
    refine yK rfl ?_
    refine yK rfl ?_
    refine aa rfl (cm rfl rfl (by constructor)) ?_
    refine yA rfl rfl ?_
    refine yN ?_
    dsimp only [St.put]
    refine ⟨_, ?_, ⟨⟨rfl, rfl⟩, zF, zB, zN, zX⟩⟩
    unfold p9
    first
    | (simp [z1]; done)
    | (simp [z1, z2]; done)
    | (simp [z1]; omega)
   have z1 : ¬ il p.pages j < x.fr := of_decide_eq_false hs
   refine yK rfl ?_
   refine yK rfl ?_
   refine yK rfl ?_
   refine yK rfl ?_
   refine yK rfl ?_
   refine aa rfl (cm rfl rfl (by constructor)) ?_
   refine yM rfl rfl ?_
   refine yK rfl ?_
   refine yK rfl ?_
   refine yK rfl ?_
   refine yK rfl ?_
   refine aa rfl (cm rfl rfl (by constructor)) ?_
   refine yA rfl rfl ?_
   refine yN ?_
   dsimp only [St.put]
   refine ⟨_, ?_, ⟨⟨rfl, rfl⟩, zF, zB, zN, zX⟩⟩
   unfold p9
   first
   | (simp [z1]; done)
   | (simp [z1, z2]; done)
   | (simp [z1]; omega)
  rintro d0 hst0
  dsimp only at hst0 ⊢
  subst hst0
  refine yS fun _ K39 => ?_
  refine yS fun _ K40 => ?_
  refine yR ?_
  try dsimp only [St.put]
  refine cb rfl (nh (n := 6) (m := n) rfl rfl zG rfl) ?_
  refine yM rfl rfl ?_
  refine yN ?_
  dsimp only [St.put]
  refine K40 _ ?_
  refine ay ?_
  refine ci 111 ?_
  refine zQ ?_
  refine c4 ((ah (ah (ah (ah G (nx + 1) (.box (j + j + j) [lst p.text, lst p.firsts, lst p.seconds, lst p.pages, .list (((p.pages.take j).map fun x => (fj p.text x : Int)).map cells) (.tip (nx + 1 + 1)), .list (((p.pages.take j).map (eb p.text)).map cells) (.tip (nx + 1 + 1 + 1)), .list (((p.pages.take j).map (er p.text)).map cells) (.tip (nx + 1 + 1 + 1 + 1))])) (nx + 1 + 1) (.tip ((p.pages.take j).map fun x => (fj p.text x : Int)).length 3 1)) (nx + 1 + 1 + 1) (.tip ((p.pages.take j).map (eb p.text)).length 56 1)) (nx + 1 + 1 + 1 + 1) (.tip ((p.pages.take j).map (er p.text)).length 56 1))) zX ?_
  dsimp only
  refine cz (X := Nat) (fun k => k ≤ 2) (fun k => 2 - k) (fun k => [(14, .v (.bool (pc p (il p.pages j) x k))), (18, .any), (19, .any), (20, .any), (21, .any), (22, .any), (110, .v (.int .i64 (k : Int)))]) (fun k G' => G') 0 rfl ?_ ?_ (fun _ _ h => h) ?_ ?_ ?_
  ·exact Nat.zero_le _
  ·exact zF
  ·rintro k hI
   exact (by (try dsimp only); repeat' (first | exact trivial | refine ⟨?_, ?_⟩ | exact .v | exact .any | refine .elem ?_ | exact cc _ _ | exact fp _ _ | exact eh _ _ | exact fy _ (by (try dsimp only); omega) | exact .box (by (try dsimp only); omega) | exact ff | exact dp | exact iu (jw _ _) | refine f5 ?_ ?_ | exact .arr (by (try dsimp only); omega) | exact .own (by (try dsimp only); omega) | exact .map (by (try dsimp only); omega) | exact e8 _ | refine cp ?_ ?_ | exact cc _ _))
  ·exact fun _ _ _ _ h => .inl h
  rintro k hS
  dsimp only at hS ⊢
  refine yS fun _ K41 => ?_
  refine yR ?_
  refine aa rfl (cg rfl rfl rfl) ?_
  refine yN ?_
  dsimp only [St.put]
  refine K41 _ ?_
  refine yS fun _ K42 => ?_
  refine am rfl (fun hc => ?_) (fun hc => ?_)
  ·replace hc := of_decide_eq_true hc
   have hk2 : k < 2 := by omega
   have hslk := hsl (decide (k = 1))
   refine aw ?_
   refine K42 _ ?_
   refine yS fun _ K43 => ?_
   refine ay ?_
   refine yS fun _ K44 => ?_
   refine yR ?_
   refine aa rfl (wj (k := k) (m := 2) (sz := 3) rfl rfl rfl rfl hk2 (vf hk2)) ?_
   try dsimp only [St.put]
   refine ae rfl (dd rfl ?_)
   try dsimp only [St.put]
   refine ae rfl (cn rfl rfl rfl zG rfl rfl (by rfl) ?_)
   refine yN ?_
   dsimp only [St.put]
   refine K44 _ ?_
   refine fq (i := 18) rfl zG zC ?_
   dsimp only
   refine ci 111 ?_
   refine zQ ?_
   refine ki (X := Unit) (fun _ => True) (fun _ => [(19, .v (.int .i64 (em (decide (k = 1)) x))), (20, lst (dm (decide (k = 1)) x))]) (fun _ G' => G') rfl ?_ (fun _ _ _ _ h => .inl h) ?_ ?_
   ·rintro _ hI
    exact (by (try dsimp only); repeat' (first | exact trivial | refine ⟨?_, ?_⟩ | exact .v | exact .any | refine .elem ?_ | exact cc _ _ | exact fp _ _ | exact eh _ _ | exact fy _ (by (try dsimp only); omega) | exact .box (by (try dsimp only); omega) | exact ff | exact dp | exact iu (jw _ _) | refine f5 ?_ ?_ | exact .arr (by (try dsimp only); omega) | exact .own (by (try dsimp only); omega) | exact .map (by (try dsimp only); omega) | exact e8 _ | refine cp ?_ ?_ | exact cc _ _))
   ·refine et [(0, none), (1, none), (2, none), (4, none), (5, none), (6, none), (3, none), (7, none), (8, none), (9, none)] (fun i => [7].contains i) (fun i => [3, 7].contains i) (fun i => [0, 4, 8, 9].contains i) [] (by kernel_rfl) (by kernel_rfl) ?_
    refine af rfl rfl rfl rfl (cj rfl rfl rfl) ?_
    try dsimp only [St.put]
    refine ar rfl rfl rfl rfl (br rfl rfl) ?_
    try dsimp only [St.put]
    refine ar rfl rfl rfl rfl (dw rfl rfl (Enc.len _)) ?_
    refine af rfl rfl rfl rfl (cj rfl rfl rfl) ?_
    try dsimp only [St.put]
    refine ar rfl rfl rfl rfl (br rfl rfl) ?_
    try dsimp only [St.put]
    refine ar rfl rfl rfl rfl (dw rfl rfl (Enc.len _)) ?_
    refine g9 ?_
    try dsimp only [St.put]
    refine gu rfl rfl rfl (ba rfl rfl rfl (yo (decide (k = 1)) x) ⟨zD, ?_⟩)
    try dsimp only [St.put]
    refine fe rfl rfl rfl rfl (ba rfl rfl rfl (ub2 (decide (k = 1)) x) ?_)
    refine ed rfl rfl rfl rfl (fw rfl (by constructor)) ?_
    refine ed rfl rfl rfl rfl (fw rfl (by constructor)) ?_
    refine g8 ?_
    dsimp only [St.put]
    exact ⟨(), trivial, ⟨⟨rfl, rfl⟩, zF, zB, zN, zX⟩⟩
   rintro _ h31
   dsimp only at h31 ⊢
   refine ci 111 ?_
   refine zQ ?_
   refine ki (X := Bool) (fun d => d = (pc p (il p.pages j) x k && (inB (em (decide (k = 1)) x) (-1) (((d7 p (decide (k = 1))).length : Int) - 1) && (decide (0 ≤ em (decide (k = 1)) x) || decide (dm (decide (k = 1)) x = []))))) (fun d => [(14, .v (.bool d))]) (fun d G' => G') rfl ?_ (fun _ _ _ _ h => .inl h) ?_ ?_
   ·rintro d hI
    exact (by (try dsimp only); repeat' (first | exact trivial | refine ⟨?_, ?_⟩ | exact .v | exact .any | refine .elem ?_ | exact cc _ _ | exact fp _ _ | exact eh _ _ | exact fy _ (by (try dsimp only); omega) | exact .box (by (try dsimp only); omega) | exact ff | exact dp | exact iu (jw _ _) | refine f5 ?_ ?_ | exact .arr (by (try dsimp only); omega) | exact .own (by (try dsimp only); omega) | exact .map (by (try dsimp only); omega) | exact e8 _ | refine cp ?_ ?_ | exact cc _ _))
   ·refine yR ?_
    refine yM rfl rfl ?_
    refine yM rfl rfl ?_
    refine ei (fun hs => ?_) (fun hs => ?_)
    ·have s0 : pc p (il p.pages j) x k = true := hs
     refine yF rfl rfl rfl rfl ?_
     refine yL rfl rfl rfl ?_
     refine yE rfl rfl rfl ?_
     try dsimp only [St.put]
     refine ae rfl (ba rfl rfl rfl (p7 (decide (k = 1)) p) ?_)
     refine aa rfl (bg rfl rfl (List.length_map _)) ?_
     refine aa rfl (f9 rfl rfl rfl (by omega)) ?_
     refine yM rfl rfl ?_
     try dsimp only [St.put]
     refine ae rfl (eg rfl rfl rfl (by decide) (by decide) zR (by decide) ?_)
     try dsimp only [St.put]
     refine ae rfl (ba rfl rfl rfl (ou _ _ [_]) ?_)
     refine aa rfl (cy rfl rfl (by constructor)) ?_
     refine yM rfl rfl ?_
     refine ei (fun hs => ?_) (fun hs => ?_)
     ·have s1 : inB (em (decide (k = 1)) x) (-1) (((d7 p (decide (k = 1))).length : Int) - 1) = true := by rw [gr] at hs; exact hs
      refine yM rfl rfl ?_
      refine aa rfl (l5 rfl rfl rfl) ?_
      refine yM rfl rfl ?_
      refine ei (fun hs => ?_) (fun hs => ?_)
      ·have s2 : 0 ≤ em (decide (k = 1)) x := of_decide_eq_true hs
       refine yK rfl ?_
       refine yK rfl ?_
       refine yK rfl ?_
       refine aa rfl (cy rfl rfl (by constructor)) ?_
       refine aa rfl (cy rfl rfl (by constructor)) ?_
       refine yA rfl rfl ?_
       refine yN ?_
       dsimp only [St.put]
       refine ⟨_, ?_, ⟨⟨rfl, rfl⟩, zF, zB, zN, zX⟩⟩
       first
       | (rw [s0]; simp; done)
       | (rw [s0, s1]; simp; done)
       | (rw [s0, s1, decide_eq_true s2]; simp; done)
       | (rw [s0, s1, decide_eq_false s2, Bool.true_and, Bool.true_and, Bool.false_or, decide_eq_decide]; exact nil_len.symm)
      have s2 : ¬ 0 ≤ em (decide (k = 1)) x := of_decide_eq_false hs
      refine yM rfl rfl ?_
      refine aa rfl (bg rfl rfl (List.length_map _)) ?_
      refine aa rfl (j8 rfl rfl rfl) ?_
      refine aa rfl (cm rfl rfl (by constructor)) ?_
      refine aa rfl (cy rfl rfl (by constructor)) ?_
      refine yA rfl rfl ?_
      refine yN ?_
      dsimp only [St.put]
      refine ⟨_, ?_, ⟨⟨rfl, rfl⟩, zF, zB, zN, zX⟩⟩
      first
      | (rw [s0]; simp; done)
      | (rw [s0, s1]; simp; done)
      | (rw [s0, s1, decide_eq_true s2]; simp; done)
      | (rw [s0, s1, decide_eq_false s2, Bool.true_and, Bool.true_and, Bool.false_or, decide_eq_decide]; exact nil_len.symm)
     have s1 : inB (em (decide (k = 1)) x) (-1) (((d7 p (decide (k = 1))).length : Int) - 1) = false := by rw [gr] at hs; exact hs
     refine yK rfl ?_
     refine yK rfl ?_
     refine yK rfl ?_
     refine yK rfl ?_
     refine yK rfl ?_
     refine yK rfl ?_
     refine yK rfl ?_
     refine aa rfl (cm rfl rfl (by constructor)) ?_
     refine yA rfl rfl ?_
     refine yN ?_
     dsimp only [St.put]
     refine ⟨_, ?_, ⟨⟨rfl, rfl⟩, zF, zB, zN, zX⟩⟩
     first
     | (rw [s0]; simp; done)
     | (rw [s0, s1]; simp; done)
     | (rw [s0, s1, decide_eq_true s2]; simp; done)
     | (rw [s0, s1, decide_eq_false s2, Bool.true_and, Bool.true_and, Bool.false_or, decide_eq_decide]; exact nil_len.symm)
    have s0 : pc p (il p.pages j) x k = false := hs
    refine yK rfl ?_
    refine yK rfl ?_
    refine yK rfl ?_
    refine yK rfl ?_
    refine yK rfl ?_
    refine yK rfl ?_
    refine yK rfl ?_
    refine yK rfl ?_
    refine yK rfl ?_
    refine aa rfl (cm rfl rfl (by constructor)) ?_
    refine yM rfl rfl ?_
    refine yK rfl ?_
    refine yK rfl ?_
    refine yK rfl ?_
    refine yK rfl ?_
    refine yK rfl ?_
    refine yK rfl ?_
    refine yK rfl ?_
    refine aa rfl (cm rfl rfl (by constructor)) ?_
    refine yA rfl rfl ?_
    refine yN ?_
    dsimp only [St.put]
    refine ⟨_, ?_, ⟨⟨rfl, rfl⟩, zF, zB, zN, zX⟩⟩
    first
    | (rw [s0]; simp; done)
    | (rw [s0, s1]; simp; done)
    | (rw [s0, s1, decide_eq_true s2]; simp; done)
    | (rw [s0, s1, decide_eq_false s2, Bool.true_and, Bool.true_and, Bool.false_or, decide_eq_decide]; exact nil_len.symm)
   rintro d hd
   dsimp only at hd ⊢
   refine yS fun _ K47 => ?_
   refine jz 20 (fun hfit => ?_)
   have hfll := (fit_lst.1 hfit).1
   rw [show (C.v (.bool d)) = .v (.bool (d && dx p.text x (dm (decide (k = 1)) x) 0)) by simp [dx]]
   refine yR ?_
   refine yM rfl rfl ?_
   refine aa rfl (bg rfl rfl (List.length_map _)) ?_
   refine yM rfl rfl ?_
   refine yN ?_
   dsimp only [St.put]
   refine K47 _ ?_
   refine ay ?_
   refine ci 145 ?_
   refine zQ ?_
   refine c4 ((ah (ah (ah (ah G (nx + 1) (.box (j + j + j) [lst p.text, lst p.firsts, lst p.seconds, lst p.pages, .list (((p.pages.take j).map fun x => (fj p.text x : Int)).map cells) (.tip (nx + 1 + 1)), .list (((p.pages.take j).map (eb p.text)).map cells) (.tip (nx + 1 + 1 + 1)), .list (((p.pages.take j).map (er p.text)).map cells) (.tip (nx + 1 + 1 + 1 + 1))])) (nx + 1 + 1) (.tip ((p.pages.take j).map fun x => (fj p.text x : Int)).length 3 1)) (nx + 1 + 1 + 1) (.tip ((p.pages.take j).map (eb p.text)).length 56 1)) (nx + 1 + 1 + 1 + 1) (.tip ((p.pages.take j).map (er p.text)).length 56 1))) zX ?_
   dsimp only
   refine cz (X := Nat) (fun i => i ≤ (dm (decide (k = 1)) x).length) (fun i => (dm (decide (k = 1)) x).length - i) (fun i => [(14, .v (.bool (d && dx p.text x (dm (decide (k = 1)) x) i))), (21, .any), (22, .any), (144, .v (.int .i64 (i : Int)))]) (fun i G' => G') 0 rfl ?_ ?_ (fun _ _ h => h) ?_ ?_ ?_
   ·exact Nat.zero_le _
   ·exact zF
   ·rintro i hI
    exact (by (try dsimp only); repeat' (first | exact trivial | refine ⟨?_, ?_⟩ | exact .v | exact .any | refine .elem ?_ | exact cc _ _ | exact fp _ _ | exact eh _ _ | exact fy _ (by (try dsimp only); omega) | exact .box (by (try dsimp only); omega) | exact ff | exact dp | exact iu (jw _ _) | refine f5 ?_ ?_ | exact .arr (by (try dsimp only); omega) | exact .own (by (try dsimp only); omega) | exact .map (by (try dsimp only); omega) | exact e8 _ | refine cp ?_ ?_ | exact cc _ _))
   ·exact fun _ _ _ _ h => .inl h
   rintro i hT
   dsimp only at hT ⊢
   refine yS fun _ K48 => ?_
   refine yR ?_
   refine aa rfl (cg rfl rfl rfl) ?_
   refine yN ?_
   dsimp only [St.put]
   refine K48 _ ?_
   refine yS fun _ K49 => ?_
   refine am rfl (fun hc => ?_) (fun hc => ?_)
   ·replace hc := of_decide_eq_true hc
    obtain ⟨q, hq⟩ : ∃ q, (dm (decide (k = 1)) x)[i]? = some q := da (by omega)
    refine aw ?_
    refine K49 _ ?_
    refine yS fun _ K50 => ?_
    refine ay ?_
    refine yS fun _ K51 => ?_
    refine yR ?_
    refine yM rfl rfl ?_
    refine aa rfl (bn rfl rfl rfl rfl (bi (by assumption)) (Enc.len _)) ?_
    refine yE rfl rfl rfl ?_
    try dsimp only [St.put]
    refine ae rfl (dd rfl ?_)
    refine yA rfl rfl ?_
    try dsimp only [St.put]
    refine ae rfl (cn rfl rfl rfl zG rfl rfl (by rfl) ?_)
    refine yN ?_
    dsimp only [St.put]
    refine K51 _ ?_
    refine fq (i := 22) rfl zG zC ?_
    dsimp only
    refine px [(0, none), (1, none), (2, none), (3, none), (4, none)] (fun _ => false) (fun i => [0, 1, 2].contains i) 33 (rl [5, 33]) (by kernel_rfl) (by kernel_rfl) ?_
    refine xM rfl rfl rfl rfl rfl ?_
    refine xM rfl rfl rfl rfl rfl ?_
    refine j5 (fun hs => ?_) (fun hs => ?_)
    ·have w0 : (d && dx p.text x (dm (decide (k = 1)) x) i) = true := hs
     refine af rfl rfl rfl rfl (cj rfl rfl rfl) ?_
     try dsimp only [St.put]
     refine ar rfl rfl rfl rfl (c := fa p.text) (i0 (cs := cells p) rfl rfl (show 1 ≤ 4 by decide)) ?_
     try dsimp only [St.put]
     refine ar rfl rfl rfl rfl (dw rfl rfl (Enc.len _)) ?_
     refine ce ?_
     refine bz [5] (by kernel_rfl) (by simp) ?_
     refine bq ?_ ?_
     ·try dsimp only [St.put]
      refine co rfl rfl rfl (ba rfl rfl rfl (ujx p.text q ht) ?_)
      refine dt [(6, none), (7, none), (8, none), (9, none), (10, none), (11, none), (12, none), (13, none), (14, none), (15, none), (16, none), (17, none), (18, none), (19, none)] (fun i => [6, 7, 8, 10, 12, 13, 15, 17, 19].contains i) 18 (rl [20, 18]) (by kernel_rfl) ?_
      refine af rfl rfl rfl rfl (cy rfl rfl (by constructor)) ?_
      refine xM rfl rfl rfl rfl rfl ?_
      refine j5 (fun hs => ?_) (fun hs => ?_)
      ·have w1 : fm p.text q = true := hs
       obtain ⟨kq, nq, wq, cq, lq, hqe, hq1, hq2, hq3⟩ := ucp w1
       have hkl := (List.getElem?_eq_some_iff.1 hq1).1
       have hnl := (List.getElem?_eq_some_iff.1 hq2).1
       have hcl := (hl3 cq (fg hq1)).2.1
       have hst := ubq (t := p.text) (k := p.text.length) (i := kq) hkl
       have hsb := u7 ht kq (by omega)
       have hqc : q.ch = (kq : Int) := by rw [hqe]
       have hql : q.ln = (nq : Int) := by rw [hqe]
       refine af rfl rfl rfl rfl (cj rfl rfl rfl) ?_
       try dsimp only [St.put]
       refine ar rfl rfl rfl rfl (br rfl rfl) ?_
       refine af rfl rfl rfl rfl (cj rfl rfl rfl) ?_
       try dsimp only [St.put]
       refine ar rfl rfl rfl rfl (br rfl rfl) ?_
       refine xM rfl rfl rfl rfl rfl ?_
       refine af rfl rfl rfl rfl (cj rfl rfl rfl) ?_
       try dsimp only [St.put]
       refine ar rfl rfl rfl rfl (br rfl rfl) ?_
       try dsimp only [St.put]
       refine af rfl rfl rfl rfl (bn rfl rfl rfl (by omega) (bi (by assumption)) (Enc.len _)) ?_
       try dsimp only [St.put]
       refine ar rfl rfl rfl rfl (br rfl rfl) ?_
       refine af rfl rfl rfl rfl (cj rfl rfl rfl) ?_
       try dsimp only [St.put]
       refine ar rfl rfl rfl rfl (br rfl rfl) ?_
       refine af rfl rfl rfl rfl (bp rfl rfl rfl (by omega)) ?_
       refine ce ?_
       refine bz [20] (by kernel_rfl) (by simp) ?_
       refine bq ?_ ?_
       ·try dsimp only [St.put]
        refine co rfl rfl rfl (eg rfl rfl rfl (by decide) (by decide) zR (by decide) ?_)
        refine bz [21] (by kernel_rfl) (by simp) ?_
        refine bq ?_ ?_
        ·try dsimp only [St.put]
         refine co rfl rfl rfl (ba rfl rfl rfl (ou _ _ [_]) ?_)
         refine dt [(22, none), (23, none), (24, none), (25, none), (26, none), (27, none), (28, none), (29, none), (30, none), (31, none), (32, none)] (fun i => [22, 23, 24, 25, 26, 27, 28, 29, 30].contains i) 5 (rl [33, 5]) (by kernel_rfl) ?_
         refine af rfl rfl rfl rfl (cy rfl rfl (by constructor)) ?_
         refine xM rfl rfl rfl rfl rfl ?_
         refine j5 (fun hs => ?_) (fun hs => ?_)
         ·have w2 : fk p.text x q = true := by
           rw [gr] at hs
           unfold fk qi
           rw [hqc, Int.toNat_natCast, Int.add_comm]; exact hs
          refine xM rfl rfl rfl rfl rfl ?_
          refine af rfl rfl rfl rfl (j8 rfl rfl rfl) ?_
          refine xM rfl rfl rfl rfl rfl ?_
          refine j5 (fun hs => ?_) (fun hs => ?_)
          ·have w3 : i = 0 := by have := of_decide_eq_true hs; omega
           refine ak rfl rfl rfl ?_
           refine ak rfl rfl rfl ?_
           refine ak rfl rfl rfl ?_
           refine ak rfl rfl rfl ?_
           refine ak rfl rfl rfl ?_
           refine ak rfl rfl rfl ?_
           refine ce ?_
           refine bz [33] (by kernel_rfl) (by simp) ?_
           refine bq ?_ ?_
           ·refine ge rfl rfl rfl ?_
            refine dt [(34, none), (35, none), (36, none), (37, none)] (fun i => [34, 35, 36, 37].contains i) 0 (rl [38]) (by kernel_rfl) ?_
            refine ak rfl rfl rfl ?_
            refine af rfl rfl rfl rfl (cy rfl rfl (by constructor)) ?_
            refine af rfl rfl rfl rfl (cy rfl rfl (by constructor)) ?_
            refine af rfl rfl rfl rfl (fw rfl (by constructor)) ?_
            refine ce ?_
            dsimp only [St.put]
            refine eu (by kernel_rfl) ?_
            refine K50 _ ?_
            refine yR ?_
            refine aa rfl (bp rfl rfl rfl (by omega)) ?_
            refine yM rfl rfl ?_
            refine yN ?_
            dsimp only [St.put]
            refine ⟨i + 1, by omega, by omega, ?_⟩
            try dsimp only
            first
            | (rw [show (d && dx p.text x (dm (decide (k = 1)) x) (i + 1)) = false by rw [gz, ← Bool.and_assoc, show (d && dx p.text x (dm (decide (k = 1)) x) i) = false from w0, Bool.false_and]]
               exact ⟨⟨rfl, rfl⟩, zF, zB, zN, zX⟩)
            | (rw [show (d && dx p.text x (dm (decide (k = 1)) x) (i + 1)) = false by rw [gz, jf hq, show fm p.text q = false from w1]; simp]
               exact ⟨⟨rfl, rfl⟩, zF, zB, zN, zX⟩)
            | (rw [show (d && dx p.text x (dm (decide (k = 1)) x) (i + 1)) = false by rw [gz, jf hq, show fk p.text x q = false from w2]; simp]
               exact ⟨⟨rfl, rfl⟩, zF, zB, zN, zX⟩)
            | (rw [show (d && dx p.text x (dm (decide (k = 1)) x) (i + 1)) = true by rw [gz, ← Bool.and_assoc, show (d && dx p.text x (dm (decide (k = 1)) x) i) = true from w0, jf hq, w1, w2, decide_eq_true (show i = 0 from w3)]; rfl]
               exact ⟨⟨rfl, rfl⟩, zF, zB, zN, zX⟩)
            | (rw [show (d && dx p.text x (dm (decide (k = 1)) x) (i + 1)) = decide (mc a q < 0) by rw [gz, ← Bool.and_assoc, show (d && dx p.text x (dm (decide (k = 1)) x) i) = true from w0, jf hq, w1, w2, decide_eq_false (show ¬ i = 0 from w3), ha]; rfl]
               exact ⟨⟨rfl, rfl⟩, zF, zB, zN, zX⟩)
           exact ca
          have w3 : ¬ i = 0 := by have := of_decide_eq_false hs; omega
          obtain ⟨a, ha⟩ : ∃ a, (dm (decide (k = 1)) x)[i - 1]? = some a := da (by omega)
          refine xM rfl rfl rfl rfl rfl ?_
          refine xM rfl rfl rfl rfl rfl ?_
          refine af rfl rfl rfl rfl (f9 rfl rfl rfl (by omega)) ?_
          try dsimp only [St.put]
          refine af rfl rfl rfl rfl (bn (k := i - 1) rfl rfl rfl (by omega) (bi ha) (Enc.len _)) ?_
          try dsimp only [St.put]
          refine ar rfl rfl rfl rfl (dw rfl rfl (Enc.len _)) ?_
          try dsimp only [St.put]
          refine ar rfl rfl rfl rfl (dw rfl rfl (Enc.len _)) ?_
          refine ce ?_
          refine bz [33] (by kernel_rfl) (by simp) ?_
          refine bq ?_ ?_
          ·try dsimp only [St.put]
           refine co rfl rfl rfl (ba rfl rfl rfl (y6 a q) ?_)
           refine dt [(34, none), (35, none), (36, none), (37, none)] (fun i => [34, 35, 36, 37].contains i) 0 (rl [38]) (by kernel_rfl) ?_
           refine af rfl rfl rfl rfl (cg rfl rfl rfl) ?_
           refine af rfl rfl rfl rfl (cm rfl rfl (by constructor)) ?_
           refine af rfl rfl rfl rfl (cy rfl rfl (by constructor)) ?_
           refine af rfl rfl rfl rfl (fw rfl (by constructor)) ?_
           refine ce ?_
           dsimp only [St.put]
           refine eu (by kernel_rfl) ?_
           refine K50 _ ?_
           refine yR ?_
           refine aa rfl (bp rfl rfl rfl (by omega)) ?_
           refine yM rfl rfl ?_
           refine yN ?_
           dsimp only [St.put]
           refine ⟨i + 1, by omega, by omega, ?_⟩
           try dsimp only
           first
           | (rw [show (d && dx p.text x (dm (decide (k = 1)) x) (i + 1)) = false by rw [gz, ← Bool.and_assoc, show (d && dx p.text x (dm (decide (k = 1)) x) i) = false from w0, Bool.false_and]]
              exact ⟨⟨rfl, rfl⟩, zF, zB, zN, zX⟩)
           | (rw [show (d && dx p.text x (dm (decide (k = 1)) x) (i + 1)) = false by rw [gz, jf hq, show fm p.text q = false from w1]; simp]
              exact ⟨⟨rfl, rfl⟩, zF, zB, zN, zX⟩)
           | (rw [show (d && dx p.text x (dm (decide (k = 1)) x) (i + 1)) = false by rw [gz, jf hq, show fk p.text x q = false from w2]; simp]
              exact ⟨⟨rfl, rfl⟩, zF, zB, zN, zX⟩)
           | (rw [show (d && dx p.text x (dm (decide (k = 1)) x) (i + 1)) = true by rw [gz, ← Bool.and_assoc, show (d && dx p.text x (dm (decide (k = 1)) x) i) = true from w0, jf hq, w1, w2, decide_eq_true (show i = 0 from w3)]; rfl]
              exact ⟨⟨rfl, rfl⟩, zF, zB, zN, zX⟩)
           | (rw [show (d && dx p.text x (dm (decide (k = 1)) x) (i + 1)) = decide (mc a q < 0) by rw [gz, ← Bool.and_assoc, show (d && dx p.text x (dm (decide (k = 1)) x) i) = true from w0, jf hq, w1, w2, decide_eq_false (show ¬ i = 0 from w3), ha]; rfl]
              exact ⟨⟨rfl, rfl⟩, zF, zB, zN, zX⟩)
          exact ca
         have w2 : fk p.text x q = false := by
          rw [gr] at hs
          unfold fk qi
          rw [hqc, Int.toNat_natCast, Int.add_comm]; exact hs
         refine ak rfl rfl rfl ?_
         refine ak rfl rfl rfl ?_
         refine ak rfl rfl rfl ?_
         refine ak rfl rfl rfl ?_
         refine ak rfl rfl rfl ?_
         refine ak rfl rfl rfl ?_
         refine ak rfl rfl rfl ?_
         refine ak rfl rfl rfl ?_
         refine ak rfl rfl rfl ?_
         refine ce ?_
         refine bz [33] (by kernel_rfl) (by simp) ?_
         refine bq ?_ ?_
         ·refine ge rfl rfl rfl ?_
          refine dt [(34, none), (35, none), (36, none), (37, none)] (fun i => [34, 35, 36, 37].contains i) 0 (rl [38]) (by kernel_rfl) ?_
          refine ak rfl rfl rfl ?_
          refine ak rfl rfl rfl ?_
          refine af rfl rfl rfl rfl (cm rfl rfl (by constructor)) ?_
          refine af rfl rfl rfl rfl (fw rfl (by constructor)) ?_
          refine ce ?_
          dsimp only [St.put]
          refine eu (by kernel_rfl) ?_
          refine K50 _ ?_
          refine yR ?_
          refine aa rfl (bp rfl rfl rfl (by omega)) ?_
          refine yM rfl rfl ?_
          refine yN ?_
          dsimp only [St.put]
          refine ⟨i + 1, by omega, by omega, ?_⟩
          try dsimp only
          first
          | (rw [show (d && dx p.text x (dm (decide (k = 1)) x) (i + 1)) = false by rw [gz, ← Bool.and_assoc, show (d && dx p.text x (dm (decide (k = 1)) x) i) = false from w0, Bool.false_and]]
             exact ⟨⟨rfl, rfl⟩, zF, zB, zN, zX⟩)
          | (rw [show (d && dx p.text x (dm (decide (k = 1)) x) (i + 1)) = false by rw [gz, jf hq, show fm p.text q = false from w1]; simp]
             exact ⟨⟨rfl, rfl⟩, zF, zB, zN, zX⟩)
          | (rw [show (d && dx p.text x (dm (decide (k = 1)) x) (i + 1)) = false by rw [gz, jf hq, show fk p.text x q = false from w2]; simp]
             exact ⟨⟨rfl, rfl⟩, zF, zB, zN, zX⟩)
          | (rw [show (d && dx p.text x (dm (decide (k = 1)) x) (i + 1)) = true by rw [gz, ← Bool.and_assoc, show (d && dx p.text x (dm (decide (k = 1)) x) i) = true from w0, jf hq, w1, w2, decide_eq_true (show i = 0 from w3)]; rfl]
             exact ⟨⟨rfl, rfl⟩, zF, zB, zN, zX⟩)
          | (rw [show (d && dx p.text x (dm (decide (k = 1)) x) (i + 1)) = decide (mc a q < 0) by rw [gz, ← Bool.and_assoc, show (d && dx p.text x (dm (decide (k = 1)) x) i) = true from w0, jf hq, w1, w2, decide_eq_false (show ¬ i = 0 from w3), ha]; rfl]
             exact ⟨⟨rfl, rfl⟩, zF, zB, zN, zX⟩)
         exact ca
        exact ca
       exact ca
      have w1 : fm p.text q = false := hs
      refine ak rfl rfl rfl ?_
      refine ak rfl rfl rfl ?_
      refine ak rfl rfl rfl ?_
      refine ak rfl rfl rfl ?_
      refine ak rfl rfl rfl ?_
      refine ak rfl rfl rfl ?_
      refine ak rfl rfl rfl ?_
      refine ak rfl rfl rfl ?_
      refine ak rfl rfl rfl ?_
      refine ak rfl rfl rfl ?_
      refine ak rfl rfl rfl ?_
      refine ak rfl rfl rfl ?_
      refine ce ?_
      refine bz [20] (by kernel_rfl) (by simp) ?_
      refine bq ?_ ?_
      ·refine ge rfl rfl rfl ?_
       refine bz [21] (by kernel_rfl) (by simp) ?_
       refine bq ?_ ?_
       ·refine ge rfl rfl rfl ?_
        refine dt [(22, none), (23, none), (24, none), (25, none), (26, none), (27, none), (28, none), (29, none), (30, none), (31, none), (32, none)] (fun i => [22, 23, 24, 25, 26, 27, 28, 29, 30].contains i) 5 (rl [33, 5]) (by kernel_rfl) ?_
        refine af rfl rfl rfl rfl (cm rfl rfl (by constructor)) ?_
        refine xM rfl rfl rfl rfl rfl ?_
        refine ak rfl rfl rfl ?_
        refine ak rfl rfl rfl ?_
        refine ak rfl rfl rfl ?_
        refine ak rfl rfl rfl ?_
        refine ak rfl rfl rfl ?_
        refine ak rfl rfl rfl ?_
        refine ak rfl rfl rfl ?_
        refine ak rfl rfl rfl ?_
        refine ak rfl rfl rfl ?_
        refine ce ?_
        refine bz [33] (by kernel_rfl) (by simp) ?_
        refine bq ?_ ?_
        ·refine ge rfl rfl rfl ?_
         refine dt [(34, none), (35, none), (36, none), (37, none)] (fun i => [34, 35, 36, 37].contains i) 0 (rl [38]) (by kernel_rfl) ?_
         refine ak rfl rfl rfl ?_
         refine ak rfl rfl rfl ?_
         refine af rfl rfl rfl rfl (cm rfl rfl (by constructor)) ?_
         refine af rfl rfl rfl rfl (fw rfl (by constructor)) ?_
         refine ce ?_
         dsimp only [St.put]
         refine eu (by kernel_rfl) ?_
         refine K50 _ ?_
         refine yR ?_
         refine aa rfl (bp rfl rfl rfl (by omega)) ?_
         refine yM rfl rfl ?_
         refine yN ?_
         dsimp only [St.put]
         refine ⟨i + 1, by omega, by omega, ?_⟩
         try dsimp only
         first
         | (rw [show (d && dx p.text x (dm (decide (k = 1)) x) (i + 1)) = false by rw [gz, ← Bool.and_assoc, show (d && dx p.text x (dm (decide (k = 1)) x) i) = false from w0, Bool.false_and]]
            exact ⟨⟨rfl, rfl⟩, zF, zB, zN, zX⟩)
         | (rw [show (d && dx p.text x (dm (decide (k = 1)) x) (i + 1)) = false by rw [gz, jf hq, show fm p.text q = false from w1]; simp]
            exact ⟨⟨rfl, rfl⟩, zF, zB, zN, zX⟩)
         | (rw [show (d && dx p.text x (dm (decide (k = 1)) x) (i + 1)) = false by rw [gz, jf hq, show fk p.text x q = false from w2]; simp]
            exact ⟨⟨rfl, rfl⟩, zF, zB, zN, zX⟩)
         | (rw [show (d && dx p.text x (dm (decide (k = 1)) x) (i + 1)) = true by rw [gz, ← Bool.and_assoc, show (d && dx p.text x (dm (decide (k = 1)) x) i) = true from w0, jf hq, w1, w2, decide_eq_true (show i = 0 from w3)]; rfl]
            exact ⟨⟨rfl, rfl⟩, zF, zB, zN, zX⟩)
         | (rw [show (d && dx p.text x (dm (decide (k = 1)) x) (i + 1)) = decide (mc a q < 0) by rw [gz, ← Bool.and_assoc, show (d && dx p.text x (dm (decide (k = 1)) x) i) = true from w0, jf hq, w1, w2, decide_eq_false (show ¬ i = 0 from w3), ha]; rfl]
            exact ⟨⟨rfl, rfl⟩, zF, zB, zN, zX⟩)
        exact ca
       exact ca
      exact ca
     exact ca
    have w0 : (d && dx p.text x (dm (decide (k = 1)) x) i) = false := hs
    refine ak rfl rfl rfl ?_
    refine ak rfl rfl rfl ?_
    refine ak rfl rfl rfl ?_
    refine ce ?_
    refine bz [5] (by kernel_rfl) (by simp) ?_
    refine bq ?_ ?_
    ·refine ge rfl rfl rfl ?_
     refine dt [(6, none), (7, none), (8, none), (9, none), (10, none), (11, none), (12, none), (13, none), (14, none), (15, none), (16, none), (17, none), (18, none), (19, none)] (fun i => [6, 7, 8, 10, 12, 13, 15, 17, 19].contains i) 18 (rl [20, 18]) (by kernel_rfl) ?_
     refine af rfl rfl rfl rfl (cm rfl rfl (by constructor)) ?_
     refine xM rfl rfl rfl rfl rfl ?_
     refine ak rfl rfl rfl ?_
     refine ak rfl rfl rfl ?_
     refine ak rfl rfl rfl ?_
     refine ak rfl rfl rfl ?_
     refine ak rfl rfl rfl ?_
     refine ak rfl rfl rfl ?_
     refine ak rfl rfl rfl ?_
     refine ak rfl rfl rfl ?_
     refine ak rfl rfl rfl ?_
     refine ak rfl rfl rfl ?_
     refine ak rfl rfl rfl ?_
     refine ak rfl rfl rfl ?_
     refine ce ?_
     refine bz [20] (by kernel_rfl) (by simp) ?_
     refine bq ?_ ?_
     ·refine ge rfl rfl rfl ?_
      refine bz [21] (by kernel_rfl) (by simp) ?_
      refine bq ?_ ?_
      ·refine ge rfl rfl rfl ?_
       refine dt [(22, none), (23, none), (24, none), (25, none), (26, none), (27, none), (28, none), (29, none), (30, none), (31, none), (32, none)] (fun i => [22, 23, 24, 25, 26, 27, 28, 29, 30].contains i) 5 (rl [33, 5]) (by kernel_rfl) ?_
       refine af rfl rfl rfl rfl (cm rfl rfl (by constructor)) ?_
       refine xM rfl rfl rfl rfl rfl ?_
       refine ak rfl rfl rfl ?_
       refine ak rfl rfl rfl ?_
       refine ak rfl rfl rfl ?_
       refine ak rfl rfl rfl ?_
       refine ak rfl rfl rfl ?_
       refine ak rfl rfl rfl ?_
       refine ak rfl rfl rfl ?_
       refine ak rfl rfl rfl ?_
       refine ak rfl rfl rfl ?_
       refine ce ?_
       refine bz [33] (by kernel_rfl) (by simp) ?_
       refine bq ?_ ?_
       ·refine ge rfl rfl rfl ?_
        refine dt [(34, none), (35, none), (36, none), (37, none)] (fun i => [34, 35, 36, 37].contains i) 0 (rl [38]) (by kernel_rfl) ?_
        refine ak rfl rfl rfl ?_
        refine ak rfl rfl rfl ?_
        refine af rfl rfl rfl rfl (cm rfl rfl (by constructor)) ?_
        refine af rfl rfl rfl rfl (fw rfl (by constructor)) ?_
        refine ce ?_
        dsimp only [St.put]
        refine eu (by kernel_rfl) ?_
        refine K50 _ ?_
        refine yR ?_
        refine aa rfl (bp rfl rfl rfl (by omega)) ?_
        refine yM rfl rfl ?_
        refine yN ?_
        dsimp only [St.put]
        refine ⟨i + 1, by omega, by omega, ?_⟩
        try dsimp only
        first
        | (rw [show (d && dx p.text x (dm (decide (k = 1)) x) (i + 1)) = false by rw [gz, ← Bool.and_assoc, show (d && dx p.text x (dm (decide (k = 1)) x) i) = false from w0, Bool.false_and]]
           exact ⟨⟨rfl, rfl⟩, zF, zB, zN, zX⟩)
        | (rw [show (d && dx p.text x (dm (decide (k = 1)) x) (i + 1)) = false by rw [gz, jf hq, show fm p.text q = false from w1]; simp]
           exact ⟨⟨rfl, rfl⟩, zF, zB, zN, zX⟩)
        | (rw [show (d && dx p.text x (dm (decide (k = 1)) x) (i + 1)) = false by rw [gz, jf hq, show fk p.text x q = false from w2]; simp]
           exact ⟨⟨rfl, rfl⟩, zF, zB, zN, zX⟩)
        | (rw [show (d && dx p.text x (dm (decide (k = 1)) x) (i + 1)) = true by rw [gz, ← Bool.and_assoc, show (d && dx p.text x (dm (decide (k = 1)) x) i) = true from w0, jf hq, w1, w2, decide_eq_true (show i = 0 from w3)]; rfl]
           exact ⟨⟨rfl, rfl⟩, zF, zB, zN, zX⟩)
        | (rw [show (d && dx p.text x (dm (decide (k = 1)) x) (i + 1)) = decide (mc a q < 0) by rw [gz, ← Bool.and_assoc, show (d && dx p.text x (dm (decide (k = 1)) x) i) = true from w0, jf hq, w1, w2, decide_eq_false (show ¬ i = 0 from w3), ha]; rfl]
           exact ⟨⟨rfl, rfl⟩, zF, zB, zN, zX⟩)
       exact ca
      exact ca
     exact ca
    exact ca
   replace hc := of_decide_eq_false hc
   obtain rfl : i = (dm (decide (k = 1)) x).length := by omega
   refine cr ?_
   refine K43 _ ?_
   refine yR ?_
   refine aa rfl (bp rfl rfl rfl (by omega)) ?_
   refine yM rfl rfl ?_
   refine yN ?_
   dsimp only [St.put]
   rw [show (d && dx p.text x (dm (decide (k = 1)) x) (dm (decide (k = 1)) x).length) = pc p (il p.pages j) x (k + 1) by rw [hd]; simp only [pc, sy, ie, Bool.and_assoc]]
   exact ⟨k + 1, by omega, by omega, ⟨⟨rfl, rfl⟩, zF, zB, zN, zX⟩⟩
  replace hc := of_decide_eq_false hc
  obtain rfl : k = 2 := by omega
  rw [uhv]
  refine cr ?_
  refine K39 _ ?_
  refine yS fun _ K52 => ?_
  refine yS fun _ K53 => ?_
  refine yR ?_
  refine yM rfl rfl ?_
  refine aa rfl (dr rfl rfl) ?_
  refine yN ?_
  dsimp only [St.put]
  refine K53 _ ?_
  refine am rfl (fun hc => ?_) (fun hc => ?_)
  ·have hpg : mb p (il p.pages j) x = false := by simpa using hc
   have hE : c7 p = 90 := xk ht (vt hx hpg)
   rw [hpg]
   refine cr ?_
   refine K32 _ ?_
   refine yS fun _ K54 => ?_
   refine yS fun _ K55 => ?_
   refine yR ?_
   refine yM rfl rfl ?_
   refine aa rfl (dr rfl rfl) ?_
   refine yN ?_
   dsimp only [St.put]
   refine K55 _ ?_
   refine am rfl (fun _ => ?_) (fun h => by cases h)
   refine yS fun _ K56 => ?_
   refine yR ?_
   refine yA rfl rfl ?_
   refine yA rfl rfl ?_
   refine yN ?_
   dsimp only [St.put]
   refine K56 _ ?_
   refine aq ?_
   refine mh rfl (by constructor) (by constructor) zN zS ?_ ?_
   ·rw [tj (by rw [hE]; decide)]
   rw [hE]
  have hpg : mb p (il p.pages j) x = true := by simpa using hc
  have hpo := pageB_true.1 hpg
  rw [hpg]
  refine aw ?_
  refine K52 _ ?_
  refine yS fun _ K57 => ?_
  refine yR ?_
  refine yF rfl rfl rfl rfl ?_
  refine yL rfl rfl rfl ?_
  refine yA rfl rfl ?_
  refine yN ?_
  dsimp only [St.put]
  refine K57 _ ?_
  refine yR ?_
  refine yM rfl rfl ?_
  refine yE rfl rfl rfl ?_
  refine yM rfl rfl ?_
  try dsimp only [St.put]
  refine ae rfl (ui rfl rfl rfl (unr p (il p.pages j) x ((p.pages.take j).map fun x => (fj p.text x : Int)) ((p.pages.take j).map (eb p.text)) ((p.pages.take j).map (er p.text)) (nx + 1) (nx + 1 + 1) (nx + 1 + 1 + 1) (nx + 1 + 1 + 1 + 1) (j + j + j) ht hpo (by rw [List.length_map, List.length_take]; omega) (by rw [List.length_map, List.length_take]; omega) (by rw [List.length_map, List.length_take]; omega) _ _ (by dsimp only [St.put]; omega) (by dsimp only [St.put]; omega) (by dsimp only [St.put]; omega) (by dsimp only [St.put]; omega) (by omega) (by omega) (by omega) (by omega) (by omega) (by omega) zG zG zG zG) ?_)
  refine yN ?_
  dsimp only [St.put]
  refine K36 _ ?_
  refine yR ?_
  refine aa rfl (bp rfl rfl rfl (by omega)) ?_
  refine yM rfl rfl ?_
  refine yN ?_
  dsimp only [St.put]
  rw [show j + j + j + 1 + 1 + 1 = (j + 1) + (j + 1) + (j + 1) by omega, ← pj (f := fun x => (fj p.text x : Int)) hx, ← pj (f := eb p.text) hx, ← pj (f := er p.text) hx, ← ud4 hx]
  exact ⟨j + 1, by omega, ⟨by omega, by rw [ucs, hK.2, y5 hx, hpg]; rfl⟩, ⟨⟨rfl, rfl⟩, zF, zB, zN, zX⟩⟩
 replace hc := of_decide_eq_false hc
 obtain rfl : j = p.pages.length := by omega
 rw [List.take_length]
 have hE : c7 p = 0 := um1 ht (by unfold f8; rw [hRB, decide_eq_true hnp, hK.2]; rfl)
 refine cr ?_
 refine K32 _ ?_
 refine yS fun _ K58 => ?_
 refine yS fun _ K59 => ?_
 refine yR ?_
 refine yM rfl rfl ?_
 refine aa rfl (dr rfl rfl) ?_
 refine yN ?_
 dsimp only [St.put]
 refine K59 _ ?_
 refine am rfl (fun h => by cases h) (fun _ => ?_)
 refine aw ?_
 refine K58 _ ?_
 refine yS fun _ K60 => ?_
 refine xq (nx + 1) _ [lst p.text, lst p.firsts, lst p.seconds, lst p.pages, lst (p.pages.map fun x => (fj p.text x : Int)), lst (p.pages.map (eb p.text)), lst (p.pages.map (er p.text))] zG zW ?_
 refine fq (i := 12) rfl zG (by simp) ?_
 dsimp only
 refine yR ?_
 refine yM rfl rfl ?_
 refine yA rfl rfl ?_
 refine yA rfl rfl ?_
 refine yN ?_
 dsimp only [St.put]
 refine K60 _ ?_
 refine aq ?_
 refine mh rfl (by constructor) (by constructor) zN zS ?_ ?_
 ·rw [zc hE]
 rw [hE]
end Go.Proofs.YtbbdginipiljdaaGreatDoor
namespace Go.AB
open Go Go.RowKit

theorem EvR.trans {E1 E2 E3 : Env} {w1 w2 w3 : World} (h : EvR E1 w1 E2 w2) (k : EvR E2 w2 E3 w3) : EvR E1 w1 E3 w3 :=
 ⟨k.B.trans h.B, fun b => Nat.le_trans (h.L b) (k.L b), fun b i hi => (k.cell b i (Nat.lt_of_lt_of_le hi (h.L b))).trans (h.cell b i hi), Nat.le_trans h.nx k.nx, fun n hn v3 x3 y3 h3 => by
  obtain ⟨v2, x2, y2, h2, q1, q2⟩ := k.T n (Nat.lt_of_lt_of_le hn h.nx) _ _ _ h3
  obtain ⟨v1, x1, y1, h1, q3, q4⟩ := h.T n hn _ _ _ h2
  exact ⟨v1, x1, y1, h1, Nat.le_trans q3 q1, fun e => (q4 (by omega)).trans (q2 (by omega))⟩⟩
theorem EvR.drop {E E' : Env} {w w' : World} (h : EvR E w E' w') {m : Nat} (hm : E.nx ≤ m) : EvR E w (E'.drop m) w' :=
 ⟨h.B, h.L, h.cell, hm, fun n hn v x y ht => h.T n hn v x y (by
  simp only [Env.drop] at ht
  split at ht
  ·exact ht
  ·cases ht)⟩
theorem EvR.same {E : Env} {w w' : World} (hc : ∀ b i, i < E.L b → w'.cell? ⟨b, i, none⟩ = w.cell? ⟨b, i, none⟩) : EvR E w E w' :=
 ⟨rfl, fun _ => Nat.le_refl _, hc, Nat.le_refl _, fun _ _ v x y ht => ⟨v, x, y, ht, Nat.le_refl _, fun _ => rfl⟩⟩

/-- An iterator at work: what is owned when so many things have come; how many there are; what they are. -/
structure FC where
 G : Nat → Nat → Option GObj
 nx : Nat
 J : Nat → Env → World → Prop
 N : Nat
 l : Nat
 cl : Nat → List C
def FC.st (I : FC) (st : St) (k : Nat) : St := { st with G := I.G k, nx := I.nx, df := 0 }
structure FC.Ok (P : Program) (I : FC) : Prop where
 sim : ∀ {k E W}, I.J k E W → SimG E W (I.G k) I.nx
 F : ∀ {k E W}, I.J k E W → E.F ≤ W.heap.size
 ev : ∀ {k E W E' W'}, I.J k E W → Ev E W E' W' → SimG E' W' (I.G k) I.nx → I.J k E' W'
 hY : ∀ {k E W vs}, I.J k E W → k < I.N → Rs E W (I.cl k) vs → YieldAt (fen none) 1 P I.l vs.toArray W fun e W' => e = .returned (.bool true) ∧ ∃ E', EvR E W E' W' ∧ I.J (k + 1) E' W'
/-- The contract of an iterator's value, where a fact is known by a name. -/
def xw (nF : Nat) (F : GObj) (P : Program) (gf : Nat) (caps : List C) (N : Nat) (cl : Nat → List C) : Prop :=
 ∀ (I : FC), I.N = N → I.cl = cl → I.Ok P → (∀ k, I.G k nF = some F) → nF < I.nx → ∀ (E : Env) (w : World) (lb : List Value), I.J 0 E w → Rs E w caps lb →
  CallsIn (fen none) 2 P gf (#[.func (.yield I.l) #[] #[]] ++ lb.toArray) w fun e W' => (∃ v, e = .returned v) ∧ ∃ E', I.J N E' W'

section
variable (P : Program) (I : FC)
def FW (c : Code) (Q : Exit → St → Nat → Prop) (st : St) (k : Nat) : Prop :=
 ∀ E W a, I.J k E W → Sim E W (I.st st k) a → cwp none P c (fun e a' W' => ∃ E' st' k', I.J k' E' W' ∧ Sim E' W' (I.st st' k') a' ∧ Q e st' k') a W
def ugf (K : St → Nat → Prop) (Q : Exit → St → Nat → Prop) : Exit → St → Nat → Prop
 | .normal, st, k => K st k
 | e, st, k => Q e st k
def ugg (id : Nat) (Q : Exit → St → Nat → Prop) : Exit → St → Nat → Prop
 | .exit id', st, k => if id' = id then Q .normal st k else Q (.exit id') st k
 | e, st, k => Q e st k
def sd (ops : Array Oper) (K : St → Nat → Prop) (rest : List Oper) (st : St) (k : Nat) : Prop :=
 ∀ E W a, I.J k E W → Sim E W (I.st st k) a → ∀ Q : Exit → Act → World → Prop, (∀ a' E' W' st' k', I.J k' E' W' → Sim E' W' (I.st st' k') a' → K st' k' → Q .normal a' W') → wpListIn (fen none) 1 P ops Q rest a W
end
/-- Cells that name nothing beyond m: what stands in slots last. -/
def lowR (m : Nat) : List Nat → List (Nat × C) → Prop
 | _, [] => True
 | s, p :: r => (s.contains p.1 = true ∨ p.2.low m) ∧ lowR m (p.1 :: s) r
theorem udv {m : Nat} {l : List C} {i : Nat} (hl : (l.getD i .any).low m) : ∀ {r : List (Nat × C)} {s : List Nat}, lowR m s r → s.contains i = false → (bv l r i).low m
 | [], _, _, _ => hl
 | p :: r, s, h, hi => by
  simp only [bv]
  cases hb : Nat.beq p.1 i
  ·rw [cond_false]
   refine udv hl h.2 ?_
   have hne : ¬ p.1 = i := fun e => by rw [e] at hb; simp at hb
   simp only [List.contains_cons, Bool.or_eq_false_iff, beq_eq_false_iff_ne]
   exact ⟨fun e => hne e.symm, hi⟩
  ·rw [cond_true]
   have e := Nat.eq_of_beq_eq_true hb
   rcases h.1 with h1 | h1
   ·rw [e, hi] at h1; cases h1
   ·exact h1

/-- .. so what stood in slots ahead. -/
def lowN (m : Nat) (s : List Nat) : Nat → List C → Prop
 | _, [] => True
 | i, c :: l => (s.contains i = true ∨ c.low m) ∧ lowN m s (i + 1) l
theorem udx {m : Nat} {s : List Nat} : ∀ {l : List C} {i j : Nat}, lowN m s i l → s.contains (i + j) = false → (l.getD j .any).low m
 | [], _, _, _, _ => .any
 | c :: l, i, 0, h, hs => by
  rcases h.1 with h1 | h1
  ·rw [Nat.add_zero] at hs; rw [hs] at h1; cases h1
  ·exact h1
 | c :: l, i, j + 1, h, hs => udx (l := l) (i := i + 1) (j := j) h.2 (by rw [show i + 1 + j = i + (j + 1) by omega]; exact hs)
theorem udw {m : Nat} {l : List C} {i : Nat} : ∀ {r : List (Nat × C)} {s : List Nat}, ((r.map (·.1)).contains i = false → (l.getD i .any).low m) → lowR m s r → s.contains i = false → (bv l r i).low m
 | [], _, hl, _, _ => hl rfl
 | p :: r, s, hl, h, hi => by
  simp only [bv]
  cases hb : Nat.beq p.1 i
  ·rw [cond_false]
   have hne : ¬ p.1 = i := fun e => by rw [e] at hb; simp at hb
   refine udw (fun hk => hl ?_) h.2 ?_
   ·simp only [List.map_cons, List.contains_cons, Bool.or_eq_false_iff, beq_eq_false_iff_ne]
    exact ⟨fun e => hne e.symm, hk⟩
   ·simp only [List.contains_cons, Bool.or_eq_false_iff, beq_eq_false_iff_ne]
    exact ⟨fun e => hne e.symm, hi⟩
  ·rw [cond_true]
   have e := Nat.eq_of_beq_eq_true hb
   rcases h.1 with h1 | h1
   ·rw [e, hi] at h1; cases h1
   ·exact h1
/-- so that what stands in slots last names nothing beyond what is owned -/
theorem zK {p : Prop} (h : p := by (try dsimp only); repeat' (first | exact trivial | exact .inl rfl | refine ⟨?_, ?_⟩ | exact .v | exact .any | refine .inr ?_ | refine .elem ?_ | refine .agg ?_ | refine .tup ?_ | refine .fn ?_ | exact cc _ _ | exact fp _ _ | exact eh _ _ | exact fy _ (by (try dsimp only); omega) | exact .box (by (try dsimp only); omega) | exact ff | exact dp | exact e8 _ | refine cp ?_ ?_)) : p := h
section
variable {P : Program} {I : FC} {Q : Exit → St → Nat → Prop} {st : St} {k : Nat}
theorem ub (h : Q .normal st k) : FW P I .skip Q st k := fun _ _ _ hj hs => wpIn_skip ⟨_, st, k, hj, hs, h⟩
theorem uac {id : Nat} (h : Q (.exit id) st k) : FW P I (.exit id) Q st k := fun _ _ _ hj hs => wpIn_exit ⟨_, st, k, hj, hs, h⟩
theorem po {x z : Code} (h : ∀ K : St → Nat → Prop, (∀ st' k', FW P I z Q st' k' → K st' k') → FW P I x (ugf K Q) st k) : FW P I (.seq x z) Q st k := by
 intro E W a hj hs
 refine wpIn_seq (wpIn_mono (h _ (fun _ _ h => h) E W a hj hs) ?_)
 rintro e a' W' ⟨E', st', k', h1, h2, h3⟩
 cases e with
 | normal => exact h3 E' W' a' h1 h2
 | _ => exact ⟨E', st', k', h1, h2, h3⟩
theorem ro {id : Nat} {c : Code} (h : FW P I c (ugg id Q) st k) : FW P I (.block id c) Q st k := by
 intro E W a hj hs
 refine wpIn_block (wpIn_mono (h E W a hj hs) ?_)
 rintro e a' W' ⟨E', st', k', h0, h1, h2⟩
 cases e with
 | exit id' =>
  simp only [ugg] at h2
  simp only [Exit.inBlock]
  split at h2
  ·rename_i e; rw [if_pos e]; exact ⟨E', st', k', h0, h1, h2⟩
  ·rename_i e; rw [if_neg e]; exact ⟨E', st', k', h0, h1, h2⟩
 | _ => exact ⟨E', st', k', h0, h1, h2⟩
theorem uc {c : Operand} {x z : Code} {b : Bool} (hc : evC st c = .v (.bool b)) (ht : b = true → FW P I x Q st k) (hf : b = false → FW P I z Q st k) : FW P I (.cond c x z) Q st k := by
 intro E W a hj hs
 have : evC (I.st st k) c = .v (.bool b) := hc
 exact wpIn_cond_split ((this ▸ hs.ev c).v_inv) (fun e => ht e E W a hj hs) (fun e => hf e E W a hj hs)
theorem li {c : Code} (m : Nat) (h : FW P I c Q { st with l := firsts st.l st.r 0 m, r := [] } k) : FW P I c Q st k := fun E W a hj hs => h E W a hj (hs.wipe m)
theorem uab {X : Type} {c : Code} (Inv : X → Prop) (μ : X → Nat) (u : X → List (Nat × C)) (kk : X → Nat) (x0 : X) (hr : st.r = []) (h0 : Inv x0) (e0 : qr st.l [] (u x0)) (hk : k = kk x0)
  (hu : ∀ x, Inv x → pm I.nx (u x))
  (round : ∀ x, Inv x → FW P I c (ugf (fun st' k' => ∃ x', μ x' < μ x ∧ Inv x' ∧ k' = kk x' ∧ Back (I.st st k) (u x') (I.G k') (I.st st' k')) Q) { st with r := u x } (kk x)) : FW P I (.loop c) Q st k := by
 intro E W a hj hs
 refine ufa (fun m a1 W1 => ∃ x E1, m = μ x ∧ Inv x ∧ I.J (kk x) E1 W1 ∧ Sim E1 W1 (I.st { st with r := u x } (kk x)) a1) (μ x0) ⟨x0, E, rfl, h0, hk ▸ hj, ?_⟩ ?_
 ·have := le_r (n := st.n) (G := I.G k) (nx := I.nx) (df := 0) e0 rfl E W a (by rw [← hr]; exact hs)
  rw [← hk]
  exact this
 ·rintro m a1 W1 ⟨x, E1, rfl, hI, hj1, hs1⟩
  refine wpIn_mono (round x hI E1 W1 a1 hj1 hs1) ?_
  rintro e a' W' ⟨E', st', k', h1, h2, h3⟩
  cases e with
  | normal =>
   obtain ⟨x', q1, q2, rfl, q3⟩ := h3
   refine ⟨μ x', q1, x', E', rfl, q2, h1, ?_⟩
   refine ⟨by have := h2.d; exact this, h2.sz.trans (show st'.n = st.n from q3.n.1), fun i v hv => ?_, h2.g⟩
   have hcl : bv st.l (u x') i = .any ∨ bv st.l (u x') i = bv st'.l st'.r i := by
    by_cases hi : i < st.l.length
    ·rcases xd _ _ q3.fits i (Nat.zero_le _) (by show i < 0 + st.l.length; omega) with h | h
     ·exact .inl h
     ·exact .inr h.symm
    ·rcases t8 st.l (u x') i with ⟨p, hp, he, he2⟩ | ⟨_, he⟩
     ·rcases q3.keys with hk | hk
      ·have : p.1 < st.l.length := w4 hk p hp
       omega
      ·rcases xc hk p hp with h | h
       ·left; rw [he2, h]
       ·right; rw [he2, ← h, he]; rfl
     ·left; rw [he, List.getD_eq_getElem?_getD, List.getElem?_eq_none (by omega)]; rfl
   show R E' W' (bv st.l (u x') i) v
   rcases hcl with h | h
   ·rw [h]; exact .any
   ·rw [h]; exact h2.t i v hv
  | _ => exact ⟨E', st', k', h1, h2, h3⟩
/-- What plain code must leave. -/
def SegP (I : FC) (k : Nat) (l : List C) (n : Nat) (st' : St) : Prop := st'.df = 0 ∧ st'.n = n ∧ (st'.l = l ∨ lowN I.nx (st'.r.map (·.1)) 0 st'.l) ∧ I.nx ≤ st'.nx ∧ (∀ n o, I.G k n = some o → st'.G n = some o) ∧ lowR I.nx [] st'.r
theorem ubx (ok : I.Ok P) {E : Env} {W : World} {a : Act} (hj : I.J k E W) (hs : Sim E W (I.st st k) a) (hr : st.r = []) {E' : Env} {W' : World} {st' : St} {a' : Act} (h1 : Ev E W E' W') (h2 : Sim E' W' st' a') (h3 : SegP I k st.l st.n st') : I.J k (E'.drop I.nx) W' ∧ Sim (E'.drop I.nx) W' (I.st st' k) a' := by
 obtain ⟨q1, q2, q3, q4, q5, q6⟩ := h3
 have hnx : E.nx = I.nx := hs.g.nx
 have hlow := hs.lowG
 have hgl : ∀ n o, I.G k n = some o → n < I.nx ∧ o.low I.nx := hlow
 have hll : ∀ i, i < st.n → (st.l.getD i .any).low I.nx := fun i hi => by
  have := hs.low i hi
  have e : bv (I.st st k).l (I.st st k).r i = st.l.getD i .any := by show bv st.l st.r i = _; rw [hr]; rfl
  rw [e] at this
  exact this
 have hs' := h2.dropTo (st' := I.st st' k) rfl q1.symm q4 (fun i hi => .inr ⟨rfl, by
  rcases q3 with q3 | q3
  ·exact udv (q3 ▸ hll i (q2 ▸ hi)) q6 rfl
  ·exact udw (fun hk => udx (i := 0) q3 (by rw [Nat.zero_add]; exact hk)) q6 rfl⟩) (fun n o ho => ⟨q5 n o ho, hgl n o ho⟩)
 exact ⟨ok.ev hj (h1.drop (by omega)) hs'.g, hs'⟩
/-- Plain code. -/
theorem uaa (ok : I.Ok P) {c : Code} (hr : st.r = []) (h : AW none P c (fun e st' => SegP I k st.l st.n st' ∧ Q e st' k) (I.st st k)) : FW P I c Q st k := by
 intro E W a hj hs
 refine io ?_ (h E W a hs)
 rintro e a' W' ⟨st', E', h1, h2, h3⟩
 obtain ⟨q1, q2⟩ := ubx ok hj hs hr h1 h2 h3.1
 exact ⟨_, st', k, q1, q2, h3.2⟩
/-- .. so many pieces of it: what lies between. -/
def ka (P : Program) (I : FC) (z : Code) (Q : Exit → St → Nat → Prop) (k : Nat) (st0 st1 : St) : Prop :=
 ∀ E0 W0 a0 E1 W1 a1, I.J k E0 W0 → Sim E0 W0 (I.st st0 k) a0 → Ev E0 W0 E1 W1 → Sim E1 W1 st1 a1 → cwp none P z (fun e a' W' => ∃ E' st' k', I.J k' E' W' ∧ Sim E' W' (I.st st' k') a' ∧ Q e st' k') a1 W1
theorem pp {x z : Code} (h : AW none P x (o8 (ka P I z Q k st) fun _ _ => False) (I.st st k)) : FW P I (.seq x z) Q st k := by
 intro E W a hj hs
 refine wpIn_seq (io ?_ (h E W a hs))
 rintro e a1 W1 ⟨st1, E1, h1, h2, h3⟩
 cases e with
 | normal => exact h3 E W a E1 W1 a1 hj hs h1 h2
 | _ => exact h3.elim
theorem xa {x z : Code} {st1 : St} (h : AW none P x (o8 (ka P I z Q k st) fun _ _ => False) st1) : ka P I (.seq x z) Q k st st1 := by
 intro E0 W0 a0 E1 W1 a1 hj hs hev hs1
 refine wpIn_seq (io ?_ (h E1 W1 a1 hs1))
 rintro e a2 W2 ⟨st2, E2, h1, h2, h3⟩
 cases e with
 | normal => exact h3 E0 W0 a0 E2 W2 a2 hj hs (hev.trans h1) h2
 | _ => exact h3.elim
theorem pq (ok : I.Ok P) {z : Code} {st1 : St} (hr : st.r = []) (hp : SegP I k st.l st.n st1) (h : FW P I z Q st1 k) : ka P I z Q k st st1 := by
 intro E0 W0 a0 E1 W1 a1 hj hs hev hs1
 obtain ⟨q1, q2⟩ := ubx ok hj hs hr hev hs1 hp
 exact h _ W1 a1 q1 q2
theorem ued {id : Nat} {l : List Oper} (h : sd P I l.toArray (Q .normal) l st k) : FW P I (.region id l.toArray false) Q st k := fun E W a hj hs =>
 wpIn_region_lit (h E W a hj hs _ fun a' E' W' st' k' h0 h1 h2 => ⟨E', st', k', h0, h1, h2⟩)
variable {ops : Array Oper} {K : St → Nat → Prop} {rest : List Oper} {o : Oper} {c : C}
theorem uei (h : K st k) : sd P I ops K [] st k := fun E W a hj hs _ hq => wpListIn_nil (hq a E W st k hj hs h)
theorem qk (hg : ez ops st o = some true) (hq : NStep P o (I.st st k) c) (h : sd P I ops K rest (st.put o.dst c) k) : sd P I ops K (o :: rest) st k := by
 intro E W a hj hs Q hQ
 have hg' : ez ops (I.st st k) o = some true := hg
 refine wpListIn_step fun Kr hK => ?_
 rw [if_pos (l7 hg' hs)]
 obtain ⟨v, h1, h2⟩ := hq E W a hs
 refine za (w8 hg).2 ?_
 unfold Oper.wp
 rw [h2 W]
 have hp := hs.put o.dst h1
 exact hK _ _ (h E W _ hj (by cases hd : o.dst <;> (rw [hd] at hp; exact hp)) Q hQ)
/-- A call of yield. -/
theorem ueh (ok : I.Ok P) {fv : Operand} {args : List Operand} {ats : Array TypeId} {cs : List C} (hk : k < I.N) (hg : ez ops st o = some true) (ho : o.op = .call { callee := .value fv, args := args.toArray, argTypes := ats }) (hf : evC st fv = .v (.func (.yield I.l) #[] #[])) (has : args.map (evC st) = cs) (hcs : cs = I.cl k)
  (h1 : sd P I ops K rest (st.put o.dst (.v (.bool true))) (k + 1)) : sd P I ops K (o :: rest) st k := by
 intro E W a hj hs Q hQ
 have hg' : ez ops (I.st st k) o = some true := hg
 have hf' : evC (I.st st k) fv = .v (.func (.yield I.l) #[] #[]) := hf
 refine wpListIn_step fun Kr hK => ?_
 rw [if_pos (l7 hg' hs)]
 have hfv := (hf' ▸ hs.ev fv).v_inv
 subst hcs
 have hra : Rs E W (I.cl k) (args.map a.eval) := by
  rw [← has]
  refine ⟨by simp, fun j c v h1 h2 => ?_⟩
  rw [List.getElem?_map] at h1 h2
  cases hx : args[j]? with
  | none => rw [hx] at h1; cases h1
  | some x =>
   rw [hx] at h1 h2
   simp only [Option.map_some, Option.some.injEq] at h1 h2
   subst h1; subst h2
   exact hs.ev x
 obtain ⟨fn, tmps, assign, body, hy, hR⟩ := ok.hY hj hk hra
 refine ⟨fun _ _ => trivial, ?_⟩
 rw [Oper.semAt_eq _ _ _ (w8 hg).2]
 have hrun : (execOp a.eval o).run P W = .ok (.round I.l fn tmps assign body) W := by
  simp only [execOp, ho, resolve, hfv]
  simp [Deferred.ofValue, invoke]
  simpa using hy
 rw [hrun]
 refine ⟨fun e => (by cases e), uik (hR.mono ?_)⟩
 rintro e W' ⟨rfl, E', h3, h4⟩
 refine hK _ _ (h1 E' W' _ h4 ?_ Q hQ)
 have hdef : a.defers = [] := List.eq_nil_of_length_eq_zero hs.d.2
 have hs' : Sim E' W' (I.st st (k + 1)) a := by
  refine ⟨⟨?_, hs.d.2⟩, hs.sz, fun i v hv => (hs.t i v hv).evr h3, ok.sim h4⟩
  rw [hdef]
  exact ok.F h4
 have hp := hs'.put o.dst (c := .v (.bool true)) (v := .bool true) (.v rfl)
 cases hd : o.dst <;> (rw [hd] at hp; exact hp)
end
theorem Rs.evr2 {E E' : Env} {w w' : World} {cs : List C} {vs : List Value} (h : Rs E w cs vs) (k : Ev E w E' w') : Rs E' w' cs vs := ⟨h.1, fun j c v h1 h2 => (h.2 j c v h1 h2).ev k⟩
theorem ud6 {nF : Nat} {F : GObj} {P : Program} {gf : Nat} {fn : Func} {c : Code} {caps : List C} {N : Nat} {cl : Nat → List C} (hf : P.funcs[gf]? = some fn) (hb : fn.body = some c) (hr : fn.results = #[])
  (h : ∀ I : FC, I.N = N → I.cl = cl → I.Ok P → (∀ k, I.G k nF = some F) → nF < I.nx →
   FW P I c (fun e _ k => (e = .normal ∨ e = .ret) ∧ k = N) { n := caps.length + 1 + (fn.ntmps - (caps.length + 1)), l := .v (.func (.yield I.l) #[] #[]) :: caps, r := [], G := noG, nx := 0 } 0) : xw nF F P gf caps N cl := by
 intro I hN hcl ok hG hn E w lb hj hrs
 have hargs : Rs E w (.v (.func (.yield I.l) #[] #[]) :: caps) (.func (.yield I.l) #[] #[] :: lb) := Rs.cons (.v rfl) hrs
 have hsim := Sim.start hargs (ok.sim hj) (ok.F hj) fn.ntmps
 have e1 : (#[.func (.yield I.l) #[] #[]] ++ lb.toArray : Array Value) = (.func (.yield I.l) #[] #[] :: lb).toArray := by simp
 rw [e1]
 have hw := h I hN hcl ok hG hn E w _ hj (show Sim E w (FC.st I _ 0) _ by unfold FC.st; simpa using hsim)
 refine callsIn_of_wp_marks hf hb trivial (wpIn_mono (ue9 (m := 2) hw) ?_)
 rintro e a' w' ⟨E', st', k', q1, q2, q3, rfl⟩
 have hd : a'.defers = [] := List.eq_nil_of_length_eq_zero q2.d.2
 have fin : bodyPostM (fen none) 2 P fn (fun e W' => (∃ v, e = .returned v) ∧ ∃ E', I.J k' E' W') .ret a' w' := by
  show LeavesInM (fen none) 2 P fn a'.tmps _ a'.defers .returning w'
  rw [hd]
  exact ⟨_, results_none hr _ _ _, ⟨_, rfl⟩, E', q1⟩
 rcases q3 with rfl | rfl
 ·exact fin
 ·exact fin

def uq (J : Nat → Nat → Option GObj) (k : Nat) (e : Exit) (st : St) : Prop :=
 match e with
 | .normal => ∀ n o, J k n = some o → st.G n = some o
 | _ => False
theorem ufp {P : Program} {nF : Nat} {F : GObj} {N : Nat} {g : Operand} {ps : Array Tmp} {assign body : Code} {Q : Exit → St → Prop} {st : St} {gf : Nat} [Fun P gf] {caps : List C} {cl : Nat → List C} (pl : List Tmp)
  (J : Nat → Nat → Option GObj) (u : Nat → List (Nat × C)) (it : xw nF F P gf caps N cl) (hJF : ∀ k, J k nF = some F) (hnF : nF < st.nx)
  (hg : evC st g = .fn (.func gf) caps) (hps : ps = pl.toArray) (hlen : ∀ k, (cl k).length = pl.length)
  (hu : ∀ k, putL pl (cl k) { st with G := J k, df := 0 } = { st with r := u k, G := J k, df := 0 })
  (h0 : ∀ n o, J 0 n = some o → st.G n = some o) (hJ : ∀ k n o, J k n = some o → st.G n = some o ∨ (n < st.nx ∧ o.low st.nx))
  (round : ∀ l k, k < N → AW (some l) P assign (o8 (AW (some l) P body (uq J (k + 1))) fun _ _ => False) { st with r := u k, G := J k, df := 0 })
  (done : Q .normal { st with G := J N, df := st.df + 1 }) : AW none P (.rangeFunc g ps assign body) Q st := by
 intro E w a hs
 obtain ⟨vs, hgv, hvs⟩ := (hg ▸ hs.ev g).fn_inv
 have hlow : ∀ {G : Nat → Option GObj}, (∀ n o, G n = some o → st.G n = some o ∨ (n < st.nx ∧ o.low st.nx)) → ∀ n o, G n = some o → n < st.nx ∧ o.low st.nx := fun h n o ho => by
  rcases h n o ho with h1 | h1
  ·exact hs.lowG n o h1
  ·exact h1
 have hF : E.F ≤ w.heap.size := hs.d.F
 have hnx := hs.g.nx
 have simAt : ∀ {E1 : Env} {W : World} {G : Nat → Option GObj} {ds : List Deferred} {k : Nat}, Ev E w E1 W → SimG E1 W G st.nx → DefN E1 W k ds → Sim E1 W { st with G := G, df := k } { a with defers := ds } := fun hev hg1 hd =>
  ⟨hd, hs.sz, fun i v hv => (hs.t i v hv).ev hev, hg1⟩
 have marked : ∀ {E1 : Env} {W : World} {D : Nat}, Ev E w E1 W → (∀ n t, E1.T n = some t → n < st.nx) → NCB st.nx w.heap.size E1 W → w.heap.size ≤ D → W.heap[D]? = some (.deferred (some [])) → DefN E1 W (st.df + 1) ({ target := .collected D, args := #[] } :: a.defers) := fun {E1 W D} hev hlt hn hD hK => by
  refine ⟨⟨⟨D, rfl, by rw [hev.x.F]; omega, hK, fun n t ht hb => ?_, ?_⟩, (hs.d.ev hev).1⟩, by simp [hs.d.2]⟩
  ·have := hn n t D _ (hlt n t ht) ht hb hK rfl
   omega
  ·have : ∀ {ds : List Deferred}, DefOk E w ds → ∀ d' ∈ ds, d'.target ≠ .collected D := by
    intro ds
    induction ds with
    | nil => exact fun _ d' h => by cases h
    | cons d ds ih =>
     rintro ⟨⟨D', e', _, h2, _⟩, k⟩ d' hd'
     rcases List.mem_cons.1 hd' with rfl | hd'
     ·rw [e']
      intro e
      simp only [Target.collected.injEq] at e
      have := (Array.getElem?_eq_some_iff.1 h2).1
      omega
     ·exact ih k d' hd'
   exact this hs.d.1
 refine ue9 (n := 3) (wpIn_rangeFunc fun fn _ => ?_)
 -- the loop's record and the block for deferred calls
 obtain ⟨rc, hrc⟩ : ∃ rc : LoopState → Option Code → Loop, rc = fun s pe => { state := s, pending := pe, fn, tmps := a.tmps, params := ps, assign, body, defers := w.heap.size } := ⟨_, rfl⟩
 obtain ⟨W1, hW1⟩ : ∃ W1, (w.alloc (.deferred (some []))).alloc (.loop (rc .ready none)) = W1 := ⟨_, rfl⟩
 have sz1 : W1.heap.size = w.heap.size + 2 := by rw [← hW1]; simp
 have gr1 : w.grownBy W1 none := by
  refine ⟨by rw [← hW1]; rfl, by rw [← hW1]; rfl, by rw [← hW1]; rfl, by omega, fun k hk _ => ?_⟩
  rw [← hW1, Below.heap_alloc _ _ _ (by simp; omega), Below.heap_alloc _ _ _ hk]
 have recs : W1.heap[w.heap.size + 1]? = some (.loop (rc .ready none)) ∧ W1.heap[w.heap.size]? = some (.deferred (some [])) := by
  rw [← hW1]
  refine ⟨by have := World.alloc_heap_new (w.alloc (.deferred (some []))) (.loop (rc .ready none)); simpa using this, ?_⟩
  rw [Below.heap_alloc _ _ _ (by simp)]
  exact World.alloc_heap_new w _
 have own1 : OwnW E w (J 0) st.nx W1 := OwnW.turn hs.g ⟨E, Ev.refl E w, hs.g.weak h0, fun n t b o _ ht hb _ _ => (hs.g.tb n t.1 t.2.1 t.2.2 b ht hb).2⟩ gr1 (fun r e => by cases e)
 refine ⟨w.heap.size + 1, [{ target := .collected w.heap.size, args := #[] }], W1, { target := .fn (.func gf) vs.toArray, args := #[.func (.yield (w.heap.size + 1)) #[] #[]] }, W1, gf, #[.func (.yield (w.heap.size + 1)) #[] #[]] ++ vs.toArray, W1, ?_, ?_, fun _ _ => trivial, ?_, fun e => (by cases e), ?_⟩
 ·rw [← hW1, hrc]; exact run_enterLoop_outer _ _ _ _ _
 ·simp only [resolve, hgv]; simp [go_sem]
 ·simp [invoke, go_sem, yq]
 have below1 : Below w.heap.size w W1 := ⟨gr1.os, gr1.tape, gr1.output, gr1.size, fun k hk => gr1.block k hk (by simp)⟩
 obtain ⟨E0, hev0, hsg0, hn0⟩ := own1
 have unt : ∀ {E1 : Env} {W : World} {k : Nat} {G : Nat → Option GObj} {o : Obj}, SimG E1 W G st.nx → NCB st.nx w.heap.size E1 W → w.heap.size ≤ k → W.heap[k]? = some o → o.isCells = false → ∀ n t, E1.T n = some t → blk t.2.2 ≠ some k := fun {E1 W k G o} hs1 hn hk' ho hf n t ht hb => by
  have hE1 : E1.nx = st.nx := hs1.nx
  have := hn n t k o (hE1 ▸ hs1.lt n t ht) ht hb ho hf
  omega
 obtain ⟨I, hI⟩ : ∃ I : FC, I = { G := J, nx := st.nx, N := N, l := w.heap.size + 1, cl := cl, J := fun k E1 W => Ev E w E1 W ∧ SimG E1 W (J k) st.nx ∧ NCB st.nx w.heap.size E1 W ∧ W.heap[w.heap.size + 1]? = some (.loop (rc .ready none)) ∧ W.heap[w.heap.size]? = some (.deferred (some [])) } := ⟨_, rfl⟩
 have hIJ : ∀ k E1 W, I.J k E1 W = (Ev E w E1 W ∧ SimG E1 W (J k) st.nx ∧ NCB st.nx w.heap.size E1 W ∧ W.heap[w.heap.size + 1]? = some (.loop (rc .ready none)) ∧ W.heap[w.heap.size]? = some (.deferred (some []))) := fun k E1 W => by rw [hI]
 have ok : I.Ok P := by
  refine ⟨fun {k E1 W} h => ?_, fun {k E1 W} h => ?_, fun {k E1 W E2 W2} h h1 h2 => ?_, ?_⟩
  ·rw [hIJ] at h; rw [hI]; exact h.2.1
  ·rw [hIJ] at h
   rw [h.1.x.F]; exact Nat.le_trans hF h.1.below.size
  ·rw [hIJ] at h ⊢
   rw [hI] at h2
   obtain ⟨q1, q2, q3, q4, q5⟩ := h
   have hE1 : E1.nx = st.nx := q2.nx
   exact ⟨q1.trans h1, h2, q3.step (by omega) q2 h1, h1.x.oth _ _ q4 (unt q2 q3 (by omega) q4 rfl), h1.x.oth _ _ q5 (unt q2 q3 (Nat.le_refl _) q5 rfl)⟩
  -- a round
  rintro k E1 W us hj hkN hcl
  rw [hIJ] at hj
  obtain ⟨hev, hs1, hn, hl, hk⟩ := hj
  have hkN' : k < N := by rw [hI] at hkN; exact hkN
  replace hcl : Rs E1 W (cl k) us := by rw [hI] at hcl; exact hcl
  have hul : us.length = pl.length := by rw [hcl.1]; exact hlen k
  have hE1 : E1.nx = st.nx := hs1.nx
  have unt : ∀ {k : Nat} {o : Obj}, w.heap.size ≤ k → W.heap[k]? = some o → o.isCells = false → ∀ n t, E1.T n = some t → blk t.2.2 ≠ some k := fun h1 h2 h3 => unt hs1 hn h1 h2 h3
  have hIl : I.l = w.heap.size + 1 := by rw [hI]
  rw [hIl]
  have hy := run_yield (P := P) (args := us.toArray) hl (by rw [hrc]; simp [hps, hul])
  rw [hrc] at hy
  refine ⟨fn, _, assign, body, hy, roundIn_of_wpIn trivial ?_⟩
  clear hy
  have ha0 : ({ tmps := (ps.zip us.toArray).foldl (fun t (p, v) => t.setIfInBounds p v) a.tmps, defers := [] } : Act) = tf pl us { tmps := a.tmps, defers := [] } := by
   rw [ucm, hps]
   simp
  have hF1 : E1.F ≤ W.heap.size := by rw [hev.x.F]; exact Nat.le_trans hF hev.below.size
  have hsim := ubv pl hcl (simAt (ds := []) (k := 0) hev hs1 ⟨hF1, rfl⟩)
  rw [hu k] at hsim
  show assign.wpIn (fen (some (w.heap.size + 1))) 1 P _ { tmps := (ps.zip us.toArray).foldl (fun t (p, v) => t.setIfInBounds p v) a.tmps, defers := [] } W
  rw [ha0]
  refine wpIn_mono (round (w.heap.size + 1) k hkN' E1 W _ hsim) ?_
  rintro e a1 Wa ⟨st1, E2, q1, q2, q3⟩
  cases e with
  | normal =>
   have hla := q1.x.oth _ _ hl (unt (by omega) hl rfl)
   have hka := q1.x.oth _ _ hk (unt (Nat.le_refl _) hk rfl)
   have hlta := (Array.getElem?_eq_some_iff.1 hla).1
   refine ⟨_, run_beginRound hla (by rw [hrc]), ?_⟩
   -- the record is busy
   have unt2 : ∀ {k : Nat} {o : Obj}, w.heap.size ≤ k → W.heap[k]? = some o → o.isCells = false → ∀ n t, E2.T n = some t → blk t.2.2 ≠ some k := fun {k o} hk' ho hf n t ht hb => by
    obtain ⟨t0, h1, h2⟩ := q1.x.nb n t k o ht hb ho
    exact unt hk' ho hf n t0 h1 h2
   obtain ⟨Wb, hWb⟩ : ∃ Wb, Wa.putObj (w.heap.size + 1) (.loop { rc .ready none with state := .busy }) = Wb := ⟨_, rfl⟩
   rw [hWb]
   have grb : Wa.grownBy Wb (some (w.heap.size + 1)) := hWb ▸ grownBy_putObj' _ _ _
   have hlb : Wb.heap[w.heap.size + 1]? = some (.loop { rc .ready none with state := .busy }) := hWb ▸ World.putObj_heap_same hlta
   have hkb : Wb.heap[w.heap.size]? = some (.deferred (some [])) := (grb.block _ (Array.getElem?_eq_some_iff.1 hka).1 (by simp)).trans hka
   obtain ⟨evb, hcellb⟩ := (hev.trans q1).turn hs.g q2.g.fresh grb (fun r e => by cases e; exact ⟨by omega, _, hla, rfl⟩)
   have hblkb : ∀ n t b, E2.T n = some t → blk t.2.2 = some b → Wb.heap[b]? = Wa.heap[b]? := fun n t b ht hb => by
    refine grb.block b (q2.g.tb n t.1 t.2.1 t.2.2 b ht hb).2 fun e => ?_
    simp only [Option.some.injEq] at e
    subst e
    exact unt2 (by omega) hl rfl n t ht hb
   have gb := q2.g.heap hcellb hblkb grb.size
   have db : DefN E2 Wb st1.df a1.defers := by
    have : ∀ {ds : List Deferred}, DefOk E2 Wa ds → DefOk E2 Wb ds := by
     intro ds
     induction ds with
     | nil => exact fun h => Nat.le_trans h grb.size
     | cons d ds ih =>
      rintro ⟨⟨D', e', h1, h2, h3, h4⟩, k⟩
      refine ⟨⟨D', e', h1, (grb.block D' (Array.getElem?_eq_some_iff.1 h2).1 fun e => ?_).trans h2, h3, h4⟩, ih k⟩
      simp only [Option.some.injEq] at e
      subst e
      rw [hla] at h2; cases h2
    exact ⟨this q2.d.1, q2.d.2⟩
   have simb : Sim E2 Wb st1 a1 := ⟨db, q2.sz, fun i v hv => (q2.t i v hv).same (fun _ => Nat.le_refl _) hcellb rfl rfl, gb⟩
   have nb2 : NCB st.nx w.heap.size E2 Wb := fun n t b o hm ht hb ho hf => by
    have := hblkb n t b ht hb
    exact hn.step (by omega) hs1 q1 n t b o hm ht hb (this.symm.trans ho) hf
   have hm2 : st.nx ≤ E2.nx := hE1 ▸ q1.nx
   refine wpIn_mono (q3 E2 Wb a1 simb) ?_
   rintro e a3 W3 ⟨st', E3, r1, r2, r3⟩
   have hl3 := r1.x.oth _ _ hlb (unt2 (by omega) hl rfl)
   have hk3 := r1.x.oth _ _ hkb (unt2 (Nat.le_refl _) hk rfl)
   have nb3 := nb2.step hm2 gb r1
   have own : ∀ {Gk : Nat → Option GObj}, (∀ n o, Gk n = some o → st'.G n = some o) → (∀ n o, Gk n = some o → n < st.nx ∧ o.low st.nx) → OwnW E w Gk st.nx W3 := fun {Gk} hsub hlw =>
    ⟨E3.drop st.nx, (evb.trans r1).drop (by omega), (r2.g.weak hsub).drop hlw, fun n t b o hm ht hb ho hf => nb3 n t b o hm (by simp only [Env.drop] at ht; rw [if_pos hm] at ht; exact ht) hb ho hf⟩
   -- the end of the round
   have fin : ∀ (jump : Option Code), (Instr.endRound (w.heap.size + 1) jump).run P W3 = .ok (.bool jump.isNone) (W3.putObj (w.heap.size + 1) (.loop (rc (if jump.isNone then .ready else .done) jump))) ∧
     (W3.putObj (w.heap.size + 1) (.loop (rc (if jump.isNone then .ready else .done) jump))).heap[w.heap.size + 1]? = some (.loop (rc (if jump.isNone then .ready else .done) jump)) ∧
     (W3.putObj (w.heap.size + 1) (.loop (rc (if jump.isNone then .ready else .done) jump))).heap[w.heap.size]? = some (.deferred (some [])) := fun jump => by
    refine ⟨?_, World.putObj_heap_same (Array.getElem?_eq_some_iff.1 hl3).1, (World.putObj_heap_other (by omega)).trans hk3⟩
    have := run_endRound (P := P) jump hl3
    rw [hrc] at this ⊢
    exact this
   have keep : ∀ jump, KeepL E W (W3.putObj (w.heap.size + 1) (.loop (rc (if jump.isNone then .ready else .done) jump))) := fun jump => ⟨by
    rw [World.putObj_size]
    exact Nat.le_trans q1.below.size (Nat.le_trans grb.size r1.below.size), fun b i hi => by
    have hne : b ≠ w.heap.size + 1 := fun e => by subst e; rw [hs.g.fresh _ (by omega)] at hi; omega
    refine (World.cell?_of_block (w := W3) (World.putObj_heap_other hne)).trans ?_
    have h1 : i < E1.L b := Nat.lt_of_lt_of_le hi (hev.L b)
    have h2 : i < E2.L b := Nat.lt_of_lt_of_le h1 (q1.L b)
    exact (r1.cell b i h2).trans ((hcellb b i h2).trans (q1.cell b i h1))⟩
   cases e with
   | normal =>
    obtain ⟨h1, h2, h3⟩ := fin none
    have hjm : ∀ n o, J (k + 1) n = some o → n < st.nx ∧ o.low st.nx := hlow (hJ _)
    have hown : OwnW E w (J (k + 1)) st.nx W3 := own r3 hjm
    have hevd : Ev E w (E3.drop st.nx) W3 := (evb.trans r1).drop (by omega)
    have hsgd : SimG (E3.drop st.nx) W3 (J (k + 1)) st.nx := (r2.g.weak r3).drop hjm
    have hncd : NCB st.nx w.heap.size (E3.drop st.nx) W3 := fun n t b o hm ht hb ho hf => nb3 n t b o hm (by simp only [Env.drop] at ht; rw [if_pos hm] at ht; exact ht) hb ho hf
    obtain ⟨W4, hW4⟩ : ∃ W4, W3.putObj (w.heap.size + 1) (.loop (rc (if (none : Option Code).isNone then .ready else .done) none)) = W4 := ⟨_, rfl⟩
    have gr4 : W3.grownBy W4 (some (w.heap.size + 1)) := hW4 ▸ grownBy_putObj' _ _ _
    have hrow : ∀ r, some (w.heap.size + 1) = some r → w.heap.size ≤ r ∧ ∃ o : Obj, W3.heap[r]? = some o ∧ o.isCells = false := fun r e => by cases e; exact ⟨by omega, _, hl3, rfl⟩
    obtain ⟨ev4, hcell4⟩ := hevd.turn hs.g hsgd.fresh gr4 hrow
    have unt3 : ∀ n t b, (E3.drop st.nx).T n = some t → blk t.2.2 = some b → W4.heap[b]? = W3.heap[b]? := fun n t b ht hb => by
     refine gr4.block b (hsgd.tb n t.1 t.2.1 t.2.2 b ht hb).2 fun e => ?_
     simp only [Option.some.injEq] at e
     subst e
     have := hncd n t _ _ (hsgd.nx ▸ hsgd.lt n t ht) ht hb hl3 rfl
     omega
    have hsg4 : SimG (E3.drop st.nx) W4 (J (k + 1)) st.nx := hsgd.heap hcell4 unt3 gr4.size
    have hnc4 : NCB st.nx w.heap.size (E3.drop st.nx) W4 := fun n t b o hm ht hb ho hf => hncd n t b o hm ht hb ((unt3 n t b ht hb).symm.trans ho) hf
    rw [hW4] at h1 h2 h3
    refine ⟨_, _, h1, rfl, E3.drop st.nx, ?_, ?_⟩
    ·have t1 : EvR E1 W E2 Wb := q1.r.trans (EvR.same hcellb)
     have t2 : EvR E1 W (E3.drop st.nx) W3 := (t1.trans r1.r).drop (by omega)
     exact t2.trans (EvR.same hcell4)
    ·rw [hIJ]
     exact ⟨ev4, hsg4, hnc4, h2, h3⟩
   | _ => exact r3.elim
  | _ => exact q3.elim
 have hcall := it I (by rw [hI]) (by rw [hI]) ok (fun k => by rw [hI]; exact hJF k) (by rw [hI]; exact hnF) E0 W1 vs (by rw [hIJ]; exact ⟨hev0, hsg0, hn0, recs.1, recs.2⟩) (hvs.evr2 hev0)
 rw [show I.l = w.heap.size + 1 by rw [hI]] at hcall
 refine hcall.mono ?_
 -- behind the iterator
 rintro e W2 ⟨⟨v, rfl⟩, E1, hj⟩
 rw [hIJ] at hj
 obtain ⟨hevj, hsj, hnj, hl, hk⟩ := hj
 have hI2 : OwnW E w (J N) st.nx W2 := ⟨E1, hevj, hsj, hnj⟩
 obtain ⟨E1, hev, hs1, hn⟩ := hI2.put hs.g (by omega) hl rfl (.loop { rc .ready none with state := .exhausted })
 have hK : (W2.putObj (w.heap.size + 1) (.loop { rc .ready none with state := .exhausted })).heap[w.heap.size]? = some (.deferred (some [])) := (World.putObj_heap_other (by omega)).trans hk
 exact ⟨none, _, by have := run_endLoop (P := P) hl (by rw [hrc]; simp); rw [hrc] at this ⊢; exact this, _, E1, hev, simAt hev hs1 (marked hev (fun n t ht => hs1.nx ▸ hs1.lt n t ht) hn (Nat.le_refl _) hK), done⟩
end Go.AB
namespace Go.AB
open Go Go.RowKit
open Go.AB.Enc (cells)
open Go.PB (az aj PlaceD bj bl bk bw av ai c6 cv dj di)
/-- how many readers are ahead of a side -/
def sdN (p : ai) : Nat → Nat
 | 0 => 0
 | 1 => p.firsts.length
 | _ => p.firsts.length + p.seconds.length
theorem yn {p : ai} : ∀ {k : Nat}, k < 2 → sdN p (k + 1) = sdN p k + (d7 p (decide (k = 1))).length
 | 0, _ => (Nat.zero_add _).symm
 | 1, _ => rfl
 | k + 2, h => by omega
theorem ulg {p : ai} : ∀ {k i : Nat}, k < 2 → i < (d7 p (decide (k = 1))).length → ck p (sdN p k + i) = jv p (decide (k = 1)) i ∧ sdN p k + i < ax p
 | 0, i, _, h => by
  have h : i < p.firsts.length := h
  rw [show sdN p 0 + i = i from Nat.zero_add i]
  unfold ck ax
  rw [decide_eq_true h]
  exact ⟨rfl, by omega⟩
 | 1, i, _, h => by
  have h : i < p.seconds.length := h
  rw [show sdN p 1 + i = p.firsts.length + i from rfl]
  unfold ck ax
  rw [decide_eq_false (by omega), Nat.add_sub_cancel_left]
  exact ⟨rfl, by omega⟩
 | k + 2, _, h, _ => by omega
end Go.AB
namespace Go.Proofs.YtbbdginipiljdaaGreatDoor
set_option maxRecDepth 10000
open Go Go.RowKit Go.AB
open Go.AB.Enc (cells)
open Go.PB (az aj PlaceD bj bl bk bw av ai c6 cv dj di)
set_option maxHeartbeats 1000000 in
theorem ulf (nF : Nat) (p : ai) (h : ey p) : xw nF kx Tryz.prog 110 [.elem [.elem (k7 p)]] (ax p) (fun k => [.v (.int .i64 (ck p k))]) := by
 refine ud6 Tryz.func110 rfl rfl fun I hN hcl ok hG hn => ?_
 simp only [Tryz.ntmps110, List.length_cons, List.length_nil, Nat.reduceAdd, Nat.reduceSub]
 have hn1 := h.nf
 have hn2 := h.ns
 refine li 2 ?_
 refine zQ ?_
 refine pp ?_
 dsimp only [FC.st]
 refine bx fun hlt => ?_
 dsimp only at hlt
 refine jb ?_
 try dsimp only [St.put]
 refine cb rfl (nh (n := 6) (m := nF) rfl rfl (hG _) rfl) ?_
 refine aa rfl (gy rfl (by constructor)) ?_
 refine jc ?_
 dsimp only [St.put]
 show ka _ _ _ _ _ _ _
 refine pq ok rfl ⟨rfl, rfl, zK, zN, zS, zK⟩ ?_
 refine ro ?_
 refine li 10 ?_
 refine zQ ?_
 refine uab (X := Nat) (fun k => k ≤ 2) (fun k => 2 - k) (fun k => [(2, .any), (3, .any), (4, .any), (5, .any), (6, .any), (7, .any), (9, .v (.int .i64 (k : Int)))]) (fun k => sdN p k) 0 rfl ?_ ?_ ?_ ?_ ?_
 ·exact Nat.zero_le _
 ·exact zF
 ·rfl
 ·rintro k hI
  exact zL
 ·rintro k hI
  dsimp only at hI ⊢
  refine li 10 ?_
  refine zQ ?_
  refine pp ?_
  dsimp only [FC.st]
  refine bx fun hlt => ?_
  dsimp only at hlt
  refine jb ?_
  refine aa rfl (cg rfl rfl rfl) ?_
  refine jc ?_
  dsimp only [St.put]
  show ka _ _ _ _ _ _ _
  refine pq ok rfl ⟨rfl, rfl, zK, zN, zS, zK⟩ ?_
  refine po fun K1 hK1 => ?_
  refine uc rfl (fun hc => ?_) (fun hc => ?_)
  ·replace hc := of_decide_eq_true hc
   have hk : k < 2 := by omega
   have hsl : (d7 p (decide (k = 1))).length ≤ 3 := by
    cases decide (k = 1)
    ·exact hn1
    ·exact hn2
   refine ub ?_
   refine hK1 _ _ ?_
   refine po fun K2 hK2 => ?_
   refine ro ?_
   refine li 10 ?_
   refine zQ ?_
   refine pp ?_
   dsimp only [FC.st]
   refine bx fun hlt => ?_
   dsimp only at hlt
   refine jb ?_
   refine aa rfl (wj (k := k) (m := 2) (sz := 3) rfl rfl rfl rfl hk (vf hk)) ?_
   try dsimp only [St.put]
   refine ae rfl (dd rfl ?_)
   try dsimp only [St.put]
   first | refine ae rfl (cn rfl rfl rfl zG rfl rfl (by rfl) ?_) | refine ae rfl (jx rfl rfl rfl zG (by constructor) rfl zO ?_)
   refine jc ?_
   dsimp only [St.put]
   show ka _ _ _ _ _ _ _
   refine xa ?_
   refine fq (i := 4) rfl zG zC ?_
   dsimp only
   refine et [(0, none), (1, none), (2, none), (3, none), (4, none), (5, none), (8, none), (6, none), (7, none)] (fun i => [6].contains i) (fun i => [6].contains i) (fun i => [0, 3, 4, 7, 8].contains i) [] (by kernel_rfl) (by kernel_rfl) ?_
   first | refine af rfl rfl rfl rfl (cj rfl rfl rfl) ?_ | refine af rfl rfl rfl rfl (dv rfl rfl) ?_
   try dsimp only [St.put]
   first | refine ar rfl rfl rfl rfl (br rfl rfl) ?_ | refine ar rfl rfl rfl rfl (dw rfl rfl (Enc.len _)) ?_ | refine ar rfl rfl rfl rfl (dw rfl rfl rfl) ?_ | refine ar rfl rfl rfl rfl (eo rfl rfl zG (by simp) (by first | rfl | assumption)) ?_ | refine ar rfl rfl rfl rfl (gl rfl rfl zG (by simp) (by rfl)) ?_ | refine ar rfl rfl rfl rfl (pz rfl rfl zG (by simp) (by simp)) ?_ | refine ar rfl rfl rfl rfl (j6 rfl rfl zG (by simp) (o4 (by assumption) rfl)) ?_ | refine ar rfl rfl rfl rfl (j6 rfl rfl zG (by simp) (by assumption)) ?_ | refine ar rfl rfl rfl rfl (qy rfl rfl zG (by simp) rfl (by assumption) rfl (by decide)) ?_ | refine ar rfl rfl rfl rfl (nh rfl rfl zG (by rfl)) ?_
   try dsimp only [St.put]
   first | refine ar rfl rfl rfl rfl (br rfl rfl) ?_ | refine ar rfl rfl rfl rfl (dw rfl rfl (Enc.len _)) ?_ | refine ar rfl rfl rfl rfl (dw rfl rfl rfl) ?_ | refine ar rfl rfl rfl rfl (eo rfl rfl zG (by simp) (by first | rfl | assumption)) ?_ | refine ar rfl rfl rfl rfl (gl rfl rfl zG (by simp) (by rfl)) ?_ | refine ar rfl rfl rfl rfl (pz rfl rfl zG (by simp) (by simp)) ?_ | refine ar rfl rfl rfl rfl (j6 rfl rfl zG (by simp) (o4 (by assumption) rfl)) ?_ | refine ar rfl rfl rfl rfl (j6 rfl rfl zG (by simp) (by assumption)) ?_ | refine ar rfl rfl rfl rfl (qy rfl rfl zG (by simp) rfl (by assumption) rfl (by decide)) ?_ | refine ar rfl rfl rfl rfl (nh rfl rfl zG (by rfl)) ?_
   first | refine af rfl rfl rfl rfl (ov rfl rfl) ?_ | refine af rfl rfl rfl rfl (ld rfl rfl) ?_ | refine af rfl rfl rfl rfl (ukq rfl rfl) ?_
   first | refine af rfl rfl rfl rfl (cj rfl rfl rfl) ?_ | refine af rfl rfl rfl rfl (dv rfl rfl) ?_
   try dsimp only [St.put]
   refine ar rfl rfl rfl rfl (c := val p) (i0 (cs := k7 p) rfl rfl (show 4 ≤ 7 by decide)) ?_
   refine af rfl rfl rfl rfl (gy rfl (by constructor)) ?_
   refine g9 ?_
   try dsimp only [St.put]
   refine fe rfl rfl rfl rfl (ba rfl rfl rfl (p7 (decide (k = 1)) p) ?_)
   first | refine ed rfl rfl rfl rfl (bg rfl rfl (List.length_map _)) ?_ | refine ed rfl rfl rfl rfl (bg rfl rfl rfl) ?_ | refine ed rfl rfl rfl rfl (tm rfl rfl) ?_ | refine ed rfl rfl rfl rfl (ukt rfl rfl) ?_ | refine ed rfl rfl rfl rfl (udl rfl rfl) ?_ | refine ed rfl rfl rfl rfl (uks rfl rfl (by omega)) ?_
   refine g8 ?_
   dsimp only [St.put]
   show ka _ _ _ _ _ _ _
   refine pq ok rfl ⟨rfl, rfl, zK, zN, zS, zK⟩ ?_
   refine ro ?_
   refine li 21 ?_
   refine zQ ?_
   refine uab (X := Nat) (fun i => i ≤ (d7 p (decide (k = 1))).length) (fun i => (d7 p (decide (k = 1))).length - i) (fun i => [(5, .any), (6, .any), (7, .any), (20, .v (.int .i64 (i : Int)))]) (fun i => sdN p k + i) 0 rfl ?_ ?_ ?_ ?_ ?_
   ·exact Nat.zero_le _
   ·exact zF
   ·rfl
   ·rintro i hI
    exact zL
   ·rintro i hJ
    dsimp only at hJ ⊢
    refine li 21 ?_
    refine zQ ?_
    refine pp ?_
    dsimp only [FC.st]
    refine bx fun hlt => ?_
    dsimp only at hlt
    refine jb ?_
    refine aa rfl (cg rfl rfl rfl) ?_
    refine jc ?_
    dsimp only [St.put]
    show ka _ _ _ _ _ _ _
    refine pq ok rfl ⟨rfl, rfl, zK, zN, zS, zK⟩ ?_
    refine po fun K3 hK3 => ?_
    refine uc rfl (fun hc => ?_) (fun hc => ?_)
    ·replace hc := of_decide_eq_true hc
     have hi : i < (d7 p (decide (k = 1))).length := by omega
     obtain ⟨hL, hN2⟩ := ulg hk hi
     refine ub ?_
     refine hK3 _ _ ?_
     refine po fun K4 hK4 => ?_
     refine ro ?_
     refine li 21 ?_
     refine zQ ?_
     refine pp ?_
     dsimp only [FC.st]
     refine bx fun hlt => ?_
     dsimp only at hlt
     refine jb ?_
     refine aa rfl (gy rfl (by constructor)) ?_
     refine aa rfl (fw rfl (by constructor)) ?_
     refine jc ?_
     dsimp only [St.put]
     show ka _ _ _ _ _ _ _
     refine xa ?_
     refine jb ?_
     try dsimp only [St.put]
     first | refine cb rfl (br rfl rfl) ?_ | refine cb rfl (dw rfl rfl (Enc.len _)) ?_ | refine cb rfl (dw rfl rfl rfl) ?_ | refine cb rfl (eo rfl rfl zG trivial (by first | rfl | assumption)) ?_ | refine cb rfl (gl rfl rfl zG trivial (by rfl)) ?_ | refine cb rfl (pz rfl rfl zG trivial (by simp)) ?_ | refine cb rfl (j6 rfl rfl zG trivial (o4 (by assumption) rfl)) ?_ | refine cb rfl (j6 rfl rfl zG trivial (by assumption)) ?_ | refine cb rfl (qy rfl rfl zG trivial rfl (by assumption) rfl (by decide)) ?_ | refine cb rfl (nh rfl rfl zG (by rfl)) ?_
     try dsimp only [St.put]
     first | refine cb rfl (br rfl rfl) ?_ | refine cb rfl (dw rfl rfl (Enc.len _)) ?_ | refine cb rfl (dw rfl rfl rfl) ?_ | refine cb rfl (eo rfl rfl zG trivial (by first | rfl | assumption)) ?_ | refine cb rfl (gl rfl rfl zG trivial (by rfl)) ?_ | refine cb rfl (pz rfl rfl zG trivial (by simp)) ?_ | refine cb rfl (j6 rfl rfl zG trivial (o4 (by assumption) rfl)) ?_ | refine cb rfl (j6 rfl rfl zG trivial (by assumption)) ?_ | refine cb rfl (qy rfl rfl zG trivial rfl (by assumption) rfl (by decide)) ?_ | refine cb rfl (nh rfl rfl zG (by rfl)) ?_
     refine aa rfl (gy rfl (by constructor)) ?_
     try dsimp only [St.put]
     refine ae rfl (ba rfl rfl rfl (ujo p (decide (k = 1)) i h hi) ?_)
     refine aa rfl (gy rfl (by constructor)) ?_
     refine aa rfl (zk rfl rfl rfl) ?_
     refine aa rfl (zk rfl rfl rfl) ?_
     refine aa rfl (fw rfl (by constructor)) ?_
     refine aa rfl (fw rfl (by constructor)) ?_
     refine jc ?_
     dsimp only [St.put]
     show ka _ _ _ _ _ _ _
     refine pq ok rfl ⟨rfl, rfl, zK, zN, zS, zK⟩ ?_
     refine po fun K5 hK5 => ?_
     refine ued ?_
     refine qk rfl (gy rfl (by constructor)) ?_
     refine qk rfl (gy rfl (by constructor)) ?_
     try dsimp only [St.put]
     refine ueh ok (by rw [hN]; exact hN2) rfl rfl rfl rfl (by rw [hcl]; show _ = [C.v (.int .i64 (ck p (sdN p k + i)))]; rw [hL]; rfl) ?_
     refine qk rfl (dr rfl rfl) ?_
     refine uei ?_
     dsimp only [St.put]
     refine hK5 _ _ ?_
     refine uc rfl (fun h => by cases h) (fun _ => ?_)
     refine ub ?_
     refine hK4 _ _ ?_
     refine li 21 ?_
     refine zQ ?_
     refine uaa ok rfl ?_
     dsimp only [FC.st]
     refine bx fun hlt => ?_
     dsimp only at hlt
     refine jb ?_
     first | refine aa rfl (bp rfl rfl rfl (by omega)) ?_ | refine aa rfl (tp rfl rfl rfl) ?_
     refine aa rfl (gy rfl (by constructor)) ?_
     refine jc ?_
     dsimp only [St.put]
     refine ⟨⟨rfl, rfl, zK, zN, zS, zK⟩, ?_⟩
     exact ⟨i + 1, by omega, by omega, rfl, ⟨⟨rfl, rfl⟩, zF, zB, zN, zX⟩⟩
    ·replace hc := of_decide_eq_false hc
     obtain rfl : i = (d7 p (decide (k = 1))).length := by omega
     refine uac ?_
     refine hK2 _ _ ?_
     refine li 10 ?_
     refine zQ ?_
     refine uaa ok rfl ?_
     dsimp only [FC.st]
     refine bx fun hlt => ?_
     dsimp only at hlt
     refine jb ?_
     first | refine aa rfl (bp rfl rfl rfl (by omega)) ?_ | refine aa rfl (tp rfl rfl rfl) ?_
     refine aa rfl (gy rfl (by constructor)) ?_
     refine jc ?_
     dsimp only [St.put]
     refine ⟨⟨rfl, rfl, zK, zN, zS, zK⟩, ?_⟩
     exact ⟨k + 1, by omega, by omega, (yn hk).symm, ⟨⟨rfl, rfl⟩, zF, zB, zN, zX⟩⟩
  ·replace hc := of_decide_eq_false hc
   obtain rfl : k = 2 := by omega
   refine uac ?_
   exact ⟨.inl rfl, rfl⟩
end Go.Proofs.YtbbdginipiljdaaGreatDoor
namespace Go.AB
open Go Go.RowKit
open Go.AB.Enc (cells)
open Go.PB (az aj PlaceD bj bl bk bw av ai c6 cv dj di)
theorem n7 {α : Type} (d v : α) : atE 0 d v = v := rfl
theorem kj {α : Type} {e : Int} (h : e ≠ 0) (d v : α) : atE e d v = d := by unfold atE; rw [decide_eq_false h]; rfl
theorem rk {p : ai} {e : Int} (h : e ≠ 0) : ec p e = e := by unfold ec; rw [decide_eq_false h]; rfl
theorem mx (p : ai) : ec p 0 = bif gw p then 0 else 8 := rfl
end Go.AB
namespace Go.Proofs.YtbbdginipiljdaaGreatDoor
set_option maxRecDepth 10000
open Go.RowKit Go.AB
open Go.AB.Enc (cells)
open Go.PB (az aj PlaceD bj bl bk bw av ai c6 cv dj di)
theorem ujf (p : ai) (n : Int) : Pure Tryz.prog 12 [val p, .v (.int .i64 n)] (.tup [val (ky p n), .v (.int .i64 (ec p (gi p n)))]) := by
 refine cw Tryz.func12 rfl (fun m => .tup (cp (eh _ _) (cp .v dp))) fun G nx => ?_
 simp only [Tryz.ntmps12, List.length_cons, List.length_nil, Nat.reduceAdd, Nat.reduceSub]
 refine bx fun hlt => ?_
 dsimp only at hlt
 refine yS fun _ K1 => ?_
 refine yR ?_
 try dsimp only [St.put]
 refine yB rfl rfl rfl ?_
 try dsimp only [St.put]
 refine ae rfl (dd rfl ?_)
 refine yA rfl rfl ?_
 refine yN ?_
 dsimp only [St.put]
 refine K1 _ ?_
 refine yS fun _ K2 => ?_
 refine yS fun _ K3 => ?_
 refine yR ?_
 refine yE rfl rfl rfl ?_
 refine yM rfl rfl ?_
 try dsimp only [St.put]
 refine ae rfl (ba rfl rfl rfl (ui8 p n) ?_)
 refine yA rfl rfl ?_
 refine yN ?_
 dsimp only [St.put]
 refine K3 _ ?_
 refine yS fun _ K4 => ?_
 refine yR ?_
 refine yM rfl rfl ?_
 refine aa rfl (fl rfl rfl rfl) ?_
 refine yN ?_
 dsimp only [St.put]
 refine K4 _ ?_
 refine am rfl (fun hc => ?_) (fun hc => ?_)
 ·have h0 : gi p n ≠ 0 := je hc
  have hE : ec p (gi p n) = gi p n := rk h0
  have hV : ky p n = ⟨0, 0⟩ := by unfold ky; rw [hE, kj h0]
  refine yS fun _ K5 => ?_
  refine yR ?_
  refine aa rfl (gd rfl rfl) ?_
  refine yM rfl rfl ?_
  try dsimp only [St.put]
  refine ae rfl (cn rfl rfl rfl zG rfl rfl (by rfl) ?_)
  refine yA rfl rfl ?_
  refine yN ?_
  dsimp only [St.put]
  refine K5 _ ?_
  refine aq ?_
  refine im rfl (ja rfl zG (by rfl) zC rfl) (du (by constructor)) zN zS ?_ ?_
  ·rw [hV]; exact zW
  rw [hE]; exact zW
 have h0 : gi p n = 0 := gq hc
 obtain ⟨hc0, j, x, rfl, hx, hpo⟩ := xr h0
 obtain ⟨hok, _⟩ := m7 hc0
 refine aw ?_
 refine K2 _ ?_
 refine yS fun _ K6 => ?_
 refine yR ?_
 refine yE rfl rfl rfl ?_
 try dsimp only [St.put]
 refine ae rfl (ba rfl rfl rfl (vo p hok) ?_)
 refine yM rfl rfl ?_
 refine yX rfl rfl rfl rfl ?_
 refine yX rfl rfl rfl rfl ?_
 try dsimp only [St.put]
 refine ae rfl (dd rfl ?_)
 try dsimp only [St.put]
 refine ae rfl (cn rfl rfl rfl zG rfl rfl (by rfl) ?_)
 refine yA rfl rfl ?_
 refine yN ?_
 dsimp only [St.put]
 refine K6 _ ?_
 refine yS fun _ K7 => ?_
 refine yS fun _ K8 => ?_
 refine yR ?_
 refine yM rfl rfl ?_
 refine aa rfl (dr rfl rfl) ?_
 refine yN ?_
 dsimp only [St.put]
 refine K8 _ ?_
 refine am rfl (fun hc => ?_) (fun hc => ?_)
 ·have hTB : gw p = false := by simpa using hc
  have hE : ec p (gi p (j : Int)) = 8 := by rw [h0, mx, hTB]; rfl
  have hV : ky p (j : Int) = ⟨0, 0⟩ := by unfold ky; rw [hE, kj (by decide)]
  refine yS fun _ K9 => ?_
  refine yR ?_
  refine aa rfl (gd rfl rfl) ?_
  try dsimp only [St.put]
  refine ae rfl (cn rfl rfl rfl zG rfl rfl (by rfl) ?_)
  refine yA rfl rfl ?_
  refine yN ?_
  dsimp only [St.put]
  refine K9 _ ?_
  refine aq ?_
  refine im rfl (ja rfl zG (by rfl) zC rfl) (du (by constructor)) zN zS ?_ ?_
  ·rw [hV]; exact zW
  rw [hE]; exact zW
 have hTB : gw p = true := by simpa using hc
 have hE : ec p (gi p (j : Int)) = 0 := by rw [h0, mx, hTB]; rfl
 have hV : ky p (j : Int) = ⟨0, (bu p).alone (ck p) (dg p) j⟩ := by unfold ky; rw [hE, n7, Int.toNat_natCast]
 rw [ta hTB]
 refine aw ?_
 refine K7 _ ?_
 refine yS fun _ K10 => ?_
 refine yR ?_
 refine yE rfl rfl rfl ?_
 try dsimp only [St.put]
 refine cb rfl (gl rfl rfl zG trivial (by rfl)) ?_
 refine yM rfl rfl ?_
 try dsimp only [St.put]
 refine ae rfl (ba rfl rfl rfl (uci p (ck p) (dg p) j x hok hx) ?_)
 refine aa rfl (gd rfl rfl) ?_
 try dsimp only [St.put]
 refine ae rfl (cn rfl rfl rfl zG rfl rfl (by rfl) ?_)
 refine yA rfl rfl ?_
 refine yN ?_
 dsimp only [St.put]
 refine K10 _ ?_
 refine aq ?_
 refine im rfl (ja rfl zG (by rfl) zC rfl) (du (by constructor)) zN zS ?_ ?_
 ·rw [hV]; exact zW
 rw [hE]; exact zW
theorem ujc (p : ai) : Pure Tryz.prog 14 [val p] (.tup [val (ku p), .v (.int .i64 (ec p (c7 p)))]) := by
 refine cw Tryz.func14 rfl (fun m => .tup (cp (eh _ _) (cp .v dp))) fun G nx => ?_
 simp only [Tryz.ntmps14, List.length_cons, List.length_nil, Nat.reduceAdd, Nat.reduceSub]
 refine bx fun hlt => ?_
 dsimp only at hlt
 refine yS fun _ K1 => ?_
 refine yR ?_
 try dsimp only [St.put]
 refine yB rfl rfl rfl ?_
 try dsimp only [St.put]
 refine ae rfl (dd rfl ?_)
 refine yA rfl rfl ?_
 refine yN ?_
 dsimp only [St.put]
 refine K1 _ ?_
 refine yS fun _ K2 => ?_
 refine yS fun _ K3 => ?_
 refine yR ?_
 refine yE rfl rfl rfl ?_
 try dsimp only [St.put]
 refine ae rfl (ba rfl rfl rfl (vr p) ?_)
 refine yA rfl rfl ?_
 refine yN ?_
 dsimp only [St.put]
 refine K3 _ ?_
 refine yS fun _ K4 => ?_
 refine yR ?_
 refine yM rfl rfl ?_
 refine aa rfl (fl rfl rfl rfl) ?_
 refine yN ?_
 dsimp only [St.put]
 refine K4 _ ?_
 refine am rfl (fun hc => ?_) (fun hc => ?_)
 ·have h0 : c7 p ≠ 0 := je hc
  have hE : ec p (c7 p) = c7 p := rk h0
  have hV : ku p = ⟨0, 0⟩ := by unfold ku; rw [hE, kj h0]
  refine yS fun _ K5 => ?_
  refine yR ?_
  refine aa rfl (gd rfl rfl) ?_
  refine yM rfl rfl ?_
  try dsimp only [St.put]
  refine ae rfl (cn rfl rfl rfl zG rfl rfl (by rfl) ?_)
  refine yA rfl rfl ?_
  refine yN ?_
  dsimp only [St.put]
  refine K5 _ ?_
  refine aq ?_
  refine im rfl (ja rfl zG (by rfl) zC rfl) (du (by constructor)) zN zS ?_ ?_
  ·rw [hV]; exact zW
  rw [hE]; exact zW
 have h0 : c7 p = 0 := gq hc
 obtain ⟨hok, _⟩ := m7 h0
 refine aw ?_
 refine K2 _ ?_
 refine yS fun _ K6 => ?_
 refine yR ?_
 refine yE rfl rfl rfl ?_
 try dsimp only [St.put]
 refine ae rfl (ba rfl rfl rfl (vo p hok) ?_)
 refine yM rfl rfl ?_
 refine yX rfl rfl rfl rfl ?_
 refine yX rfl rfl rfl rfl ?_
 try dsimp only [St.put]
 refine ae rfl (dd rfl ?_)
 try dsimp only [St.put]
 refine ae rfl (cn rfl rfl rfl zG rfl rfl (by rfl) ?_)
 refine yA rfl rfl ?_
 refine yN ?_
 dsimp only [St.put]
 refine K6 _ ?_
 refine yS fun _ K7 => ?_
 refine yS fun _ K8 => ?_
 refine yR ?_
 refine yM rfl rfl ?_
 refine aa rfl (dr rfl rfl) ?_
 refine yN ?_
 dsimp only [St.put]
 refine K8 _ ?_
 refine am rfl (fun hc => ?_) (fun hc => ?_)
 ·have hTB : gw p = false := by simpa using hc
  have hE : ec p (c7 p) = 8 := by rw [h0, mx, hTB]; rfl
  have hV : ku p = ⟨0, 0⟩ := by unfold ku; rw [hE, kj (by decide)]
  refine yS fun _ K9 => ?_
  refine yR ?_
  refine aa rfl (gd rfl rfl) ?_
  try dsimp only [St.put]
  refine ae rfl (cn rfl rfl rfl zG rfl rfl (by rfl) ?_)
  refine yA rfl rfl ?_
  refine yN ?_
  dsimp only [St.put]
  refine K9 _ ?_
  refine aq ?_
  refine im rfl (ja rfl zG (by rfl) zC rfl) (du (by constructor)) zN zS ?_ ?_
  ·rw [hV]; exact zW
  rw [hE]; exact zW
 have hTB : gw p = true := by simpa using hc
 have hE : ec p (c7 p) = 0 := by rw [h0, mx, hTB]; rfl
 have hV : ku p = ⟨0, (bu p).most (ck p) (dg p)⟩ := by unfold ku; rw [hE, n7]; rfl
 rw [ta hTB]
 refine aw ?_
 refine K7 _ ?_
 refine yS fun _ K10 => ?_
 refine yR ?_
 refine yE rfl rfl rfl ?_
 try dsimp only [St.put]
 refine cb rfl (gl rfl rfl zG trivial (by rfl)) ?_
 try dsimp only [St.put]
 refine ae rfl (ba rfl rfl rfl (vp p (ck p) (dg p) hok (qm hok)) ?_)
 refine aa rfl (gd rfl rfl) ?_
 try dsimp only [St.put]
 refine ae rfl (cn rfl rfl rfl zG rfl rfl (by rfl) ?_)
 refine yA rfl rfl ?_
 refine yN ?_
 dsimp only [St.put]
 refine K10 _ ?_
 refine aq ?_
 refine im rfl (ja rfl zG (by rfl) zC rfl) (du (by constructor)) zN zS ?_ ?_
 ·rw [hV]; exact zW
 rw [hE]; exact zW
end Go.Proofs.YtbbdginipiljdaaGreatDoor
namespace Go.AB
open Go Go.RowKit
open Go.AB.Enc (cells)
open Go.PB (az aj PlaceD bj bl bk bw av ai c6 cv dj di)
theorem qe {P : Program} {o : Oper} {st : St} {t : TypeId} {x y : Operand} {k : IntKind} {a b : Int} (hab : a = b) (ho : o.op = .binOp .neq t x y t) (hx : evC st x = .v (.int k a)) (hy : evC st y = .v (.int k b)) : NStep P o st (.v (.bool false)) := by
 subst hab
 have := fl (P := P) ho hx hy
 rwa [decide_eq_true rfl] at this
instance : FlatV bw := ⟨fun x => [.int .i64 x.id, .int .i64 x.miss], fun _ => rfl⟩
instance : FlatV cv := ⟨fun x => [.int .i64 x.lo, .int .i64 x.hi], fun _ => rfl⟩
def kf (x : av) : Bool := decide (200 < x.found.length) || decide (200 < x.well.length)
def ny (p : ai) : Bool := lh p.text || decide (6 < p.firsts.length) || decide (6 < p.seconds.length) || decide (12 < p.pages.length) || p.pages.any kf
end Go.AB
namespace Go.Proofs.YtbbdginipiljdaaGreatDoor
set_option maxRecDepth 10000
open Go.RowKit Go.AB
open Go.AB.Enc (cells)
open Go.PB (az aj PlaceD bj bl bk bw av ai c6 cv dj di)
theorem ug2 : Tryz.prog.underlying 67 = some (.struct (Tryz.prog.fieldsOf 67)) := by kernel_rfl
theorem uh3 : Tryz.prog.stoodInHeld 67 = false := by kernel_rfl
instance : EqT Tryz.prog 67 bw where
 guard op w x y xs ys := run_eqGuard_agg w op _ x y xs ys (by kernel_rfl)
 same w x y := by
  obtain ⟨a, b⟩ := x
  obtain ⟨a', b'⟩ := y
  simp only [FlatV.vals]
  rw [run_equalIn_agg _ _ _ _ _ ug2 uh3]
  by_cases h1 : a = a' <;> by_cases h2 : b = b' <;> simp [go_sem, h1, h2]
theorem ug1 : Tryz.prog.underlying 32 = some (.struct (Tryz.prog.fieldsOf 32)) := by kernel_rfl
theorem uh2 : Tryz.prog.stoodInHeld 32 = false := by kernel_rfl
instance : EqT Tryz.prog 32 cv where
 guard op w x y xs ys := run_eqGuard_agg w op _ x y xs ys (by kernel_rfl)
 same w x y := by
  obtain ⟨a, b⟩ := x
  obtain ⟨a', b'⟩ := y
  simp only [FlatV.vals]
  rw [run_equalIn_agg _ _ _ _ _ ug1 uh2]
  by_cases h1 : a = a' <;> by_cases h2 : b = b' <;> simp [go_sem, h1, h2]
theorem ujh (p : ai) : Pure Tryz.prog 9 [val p] (.v (.bool (ny p))) := by
 refine cw Tryz.func9 rfl (fun m => .v) fun G nx => ?_
 simp only [Tryz.ntmps9, List.length_cons, List.length_nil, Nat.reduceAdd, Nat.reduceSub]
 refine bx fun hlt => ?_
 dsimp only at hlt
 refine yS fun _ K1 => ?_
 refine yR ?_
 try dsimp only [St.put]
 refine yB rfl rfl rfl ?_
 refine yA rfl rfl ?_
 refine yN ?_
 dsimp only [St.put]
 refine K1 _ ?_
 refine yS fun _ K2 => ?_
 refine ci 4 ?_
 refine zQ ?_
 refine ki (X := Bool) (fun d => (lh p.text || decide (6 < p.firsts.length) || decide (6 < p.seconds.length) || decide (12 < p.pages.length)) = d) (fun d => [(24, .v (.bool d))]) (fun d G' => G') rfl ?_ (fun _ _ _ _ h => .inl h) ?_ ?_
 ·rintro d hI
  exact zL
 ·refine yR ?_
  refine yF rfl rfl rfl rfl ?_
  try dsimp only [St.put]
  refine cb rfl (c := fa p.text) (i0 (cs := cells p) rfl rfl (show 1 ≤ 4 by decide)) ?_
  try dsimp only [St.put]
  refine ae rfl (ba rfl rfl rfl (un5 p.text) ?_)
  refine yM rfl rfl ?_
  refine ei (fun hs => ?_) (fun hs => ?_)
  ·have h1 : lh p.text = true := hs
   refine yK rfl ?_
   refine yK rfl ?_
   refine yK rfl ?_
   refine yK rfl ?_
   refine aa rfl (cy rfl rfl (by constructor)) ?_
   refine yM rfl rfl ?_
   refine yK rfl ?_
   refine yK rfl ?_
   refine yK rfl ?_
   refine yK rfl ?_
   refine aa rfl (cy rfl rfl (by constructor)) ?_
   refine yM rfl rfl ?_
   refine yK rfl ?_
   refine yK rfl ?_
   refine yK rfl ?_
   refine yK rfl ?_
   refine aa rfl (cy rfl rfl (by constructor)) ?_
   refine yN ?_
   dsimp only [St.put]
   refine ⟨_, ?_, ⟨⟨rfl, rfl⟩, zF, zB, zN, zX⟩⟩
   first
   | (simp [h1]; done)
   | (simp [h1, h2]; done)
   | (simp [h1, h2, h3]; done)
   | (simp [h1, h2, h3]; omega)
  have h1 : lh p.text = false := hs
  refine yF rfl rfl rfl rfl ?_
  refine yL rfl rfl rfl ?_
  refine aa rfl (bg rfl rfl (List.length_map _)) ?_
  refine aa rfl (iq rfl rfl rfl) ?_
  refine aa rfl (cm rfl rfl (by constructor)) ?_
  refine yM rfl rfl ?_
  refine ei (fun hs => ?_) (fun hs => ?_)
  ·have h2 : 6 < p.firsts.length := by have := of_decide_eq_true hs; omega
   refine yK rfl ?_
   refine yK rfl ?_
   refine yK rfl ?_
   refine yK rfl ?_
   refine aa rfl (cy rfl rfl (by constructor)) ?_
   refine yM rfl rfl ?_
   refine yK rfl ?_
   refine yK rfl ?_
   refine yK rfl ?_
   refine yK rfl ?_
   refine aa rfl (cy rfl rfl (by constructor)) ?_
   refine yN ?_
   dsimp only [St.put]
   refine ⟨_, ?_, ⟨⟨rfl, rfl⟩, zF, zB, zN, zX⟩⟩
   first
   | (simp [h1]; done)
   | (simp [h1, h2]; done)
   | (simp [h1, h2, h3]; done)
   | (simp [h1, h2, h3]; omega)
  have h2 : ¬ 6 < p.firsts.length := by have := of_decide_eq_false hs; omega
  refine yF rfl rfl rfl rfl ?_
  refine yL rfl rfl rfl ?_
  refine aa rfl (bg rfl rfl (List.length_map _)) ?_
  refine aa rfl (iq rfl rfl rfl) ?_
  refine aa rfl (cm rfl rfl (by constructor)) ?_
  refine yM rfl rfl ?_
  refine ei (fun hs => ?_) (fun hs => ?_)
  ·have h3 : 6 < p.seconds.length := by have := of_decide_eq_true hs; omega
   refine yK rfl ?_
   refine yK rfl ?_
   refine yK rfl ?_
   refine yK rfl ?_
   refine aa rfl (cy rfl rfl (by constructor)) ?_
   refine yN ?_
   dsimp only [St.put]
   refine ⟨_, ?_, ⟨⟨rfl, rfl⟩, zF, zB, zN, zX⟩⟩
   first
   | (simp [h1]; done)
   | (simp [h1, h2]; done)
   | (simp [h1, h2, h3]; done)
   | (simp [h1, h2, h3]; omega)
  have h3 : ¬ 6 < p.seconds.length := by have := of_decide_eq_false hs; omega
  refine yF rfl rfl rfl rfl ?_
  refine yL rfl rfl rfl ?_
  refine aa rfl (bg rfl rfl (List.length_map _)) ?_
  refine aa rfl (iq rfl rfl rfl) ?_
  refine aa rfl (cm rfl rfl (by constructor)) ?_
  refine yN ?_
  dsimp only [St.put]
  refine ⟨_, ?_, ⟨⟨rfl, rfl⟩, zF, zB, zN, zX⟩⟩
  first
  | (simp [h1]; done)
  | (simp [h1, h2]; done)
  | (simp [h1, h2, h3]; done)
  | (simp [h1, h2, h3]; omega)
 rintro d hst
 dsimp only at hst ⊢
 refine am rfl (fun hc => ?_) (fun hc => ?_)
 ·rw [hc] at hst
  refine yS fun _ K4 => ?_
  refine yR ?_
  refine yA rfl rfl ?_
  refine yN ?_
  dsimp only [St.put]
  refine K4 _ ?_
  refine aq ?_
  refine bh rfl (by constructor) zN zS ?_
  exact vb (by unfold ny; rw [hst]; rfl)
 rw [hc] at hst
 have hpl : ¬ 12 < p.pages.length := fun h => by rw [decide_eq_true h, Bool.or_true] at hst; cases hst
 refine aw ?_
 refine K2 _ ?_
 refine yS fun _ K5 => ?_
 refine yS fun _ K6 => ?_
 refine yR ?_
 refine yA rfl rfl ?_
 refine yN ?_
 dsimp only [St.put]
 refine K6 _ ?_
 refine ay ?_
 refine ci 4 ?_
 refine zQ ?_
 refine c4 (G) zX ?_
 dsimp only
 refine cz (X := Nat) (fun i => i ≤ p.pages.length ∧ ∀ x ∈ p.pages.take i, kf x = false) (fun i => p.pages.length - i) (fun i => [(3, .v (.int .i64 (i : Int)))]) (fun i G' => G') 0 rfl ?_ ?_ (fun _ _ h => h) ?_ ?_ ?_
 ·exact ⟨Nat.zero_le _, by simp⟩
 ·exact zF
 ·rintro i hI
  exact zL
 ·exact fun _ _ _ _ h => .inl h
 rintro i hI
 dsimp only at hI ⊢
 refine yS fun _ K7 => ?_
 refine yS fun _ K8 => ?_
 refine yR ?_
 refine yM rfl rfl ?_
 refine yF rfl rfl rfl rfl ?_
 refine yL rfl rfl rfl ?_
 refine aa rfl (bg rfl rfl (List.length_map _)) ?_
 refine aa rfl (cg rfl rfl rfl) ?_
 refine yN ?_
 dsimp only [St.put]
 refine K8 _ ?_
 refine am rfl (fun hc => ?_) (fun hc => ?_)
 ·replace hc := of_decide_eq_true hc
  obtain ⟨x, hx⟩ : ∃ x, p.pages[i]? = some x := da (by omega)
  refine aw ?_
  refine K7 _ ?_
  refine yS fun _ K9 => ?_
  refine ay ?_
  refine yS fun _ K10 => ?_
  refine yR ?_
  refine yF rfl rfl rfl rfl ?_
  refine yL rfl rfl rfl ?_
  refine yM rfl rfl ?_
  refine aa rfl (bn rfl rfl rfl rfl (bi (by assumption)) (Enc.len _)) ?_
  refine yF rfl rfl rfl rfl ?_
  refine yL rfl rfl rfl ?_
  refine aa rfl (bg rfl rfl (List.length_map _)) ?_
  refine aa rfl (iq rfl rfl rfl) ?_
  refine yM rfl rfl ?_
  refine ei (fun hs => ?_) (fun hs => ?_)
  ·have g1 : 200 < x.found.length := by have := of_decide_eq_true hs; omega
   refine yK rfl ?_
   refine yK rfl ?_
   refine yK rfl ?_
   refine yK rfl ?_
   refine yK rfl ?_
   refine yK rfl ?_
   refine yK rfl ?_
   refine yK rfl ?_
   refine aa rfl (cy rfl rfl (by constructor)) ?_
   refine yN ?_
   dsimp only [St.put]
   refine K10 _ ?_
   refine am rfl (fun _ => ?_) (fun h => by cases h)
   have hgx : kf x = true := by
    first
    | (simp [kf, g1]; done)
    | (have g2 : 200 < x.well.length := by (have := of_decide_eq_true hc; omega)
       simp [kf, g2])
   refine yS fun _ K11 => ?_
   refine yR ?_
   refine yA rfl rfl ?_
   refine yN ?_
   dsimp only [St.put]
   refine K11 _ ?_
   refine aq ?_
   refine bh rfl (by constructor) zN zS ?_
   exact vb (by
    have : p.pages.any kf = true := List.any_eq_true.2 ⟨x, fg hx, hgx⟩
    unfold ny; rw [this, Bool.or_true])
  have g1 : ¬ 200 < x.found.length := by have := of_decide_eq_false hs; omega
  refine yF rfl rfl rfl rfl ?_
  refine yL rfl rfl rfl ?_
  refine yM rfl rfl ?_
  refine aa rfl (bn rfl rfl rfl rfl (bi (by assumption)) (Enc.len _)) ?_
  refine yF rfl rfl rfl rfl ?_
  refine yL rfl rfl rfl ?_
  refine aa rfl (bg rfl rfl (List.length_map _)) ?_
  refine aa rfl (iq rfl rfl rfl) ?_
  refine aa rfl (cm rfl rfl (by constructor)) ?_
  refine yN ?_
  dsimp only [St.put]
  refine K10 _ ?_
  refine am rfl (fun hc => ?_) (fun hc => ?_)
  ·have hgx : kf x = true := by
    first
    | (simp [kf, g1]; done)
    | (have g2 : 200 < x.well.length := by (have := of_decide_eq_true hc; omega)
       simp [kf, g2])
   refine yS fun _ K12 => ?_
   refine yR ?_
   refine yA rfl rfl ?_
   refine yN ?_
   dsimp only [St.put]
   refine K12 _ ?_
   refine aq ?_
   refine bh rfl (by constructor) zN zS ?_
   exact vb (by
    have : p.pages.any kf = true := List.any_eq_true.2 ⟨x, fg hx, hgx⟩
    unfold ny; rw [this, Bool.or_true])
  have hgx : kf x = false := by
   have g2 : ¬ 200 < x.well.length := by (have := of_decide_eq_false hc; omega)
   simp [kf, g1, g2]
  refine aw ?_
  refine K9 _ ?_
  refine yR ?_
  refine yM rfl rfl ?_
  refine aa rfl (bp rfl rfl rfl (by omega)) ?_
  refine yA rfl rfl ?_
  refine yN ?_
  dsimp only [St.put]
  exact ⟨i + 1, by omega, ⟨by omega, zp (p := fun x : av => kf x = false) hx hgx hI.2⟩, ⟨⟨rfl, rfl⟩, zF, zB, zN, zX⟩⟩
 replace hc := of_decide_eq_false hc
 have hall := hI.2
 rw [el (show p.pages.length ≤ i by omega)] at hall
 refine cr ?_
 refine K5 _ ?_
 refine yS fun _ K13 => ?_
 refine yR ?_
 refine yA rfl rfl ?_
 refine yN ?_
 dsimp only [St.put]
 refine K13 _ ?_
 refine aq ?_
 refine bh rfl (by constructor) zN zS ?_
 exact vb (by
  have : p.pages.any kf = false := List.any_eq_false.2 fun x hx => by rw [hall x hx]; simp
  unfold ny; rw [hst, this]; rfl)
theorem ujd (p : ai) : Pure Tryz.prog 20 [val p, val p] (.v (.bool true)) := by
 refine cw Tryz.func20 rfl (fun m => .v) fun G nx => ?_
 simp only [Tryz.ntmps20, List.length_cons, List.length_nil, Nat.reduceAdd, Nat.reduceSub]
 refine bx fun hlt => ?_
 dsimp only at hlt
 have hSS : Pure Tryz.prog 60 [fa p.text, fa p.text] (.v (.bool true)) := by
  have := uny p.text p.text
  rwa [decide_eq_true rfl] at this
 have hSP : ∀ l : List PlaceD, Pure Tryz.prog 61 [lst l, lst l] (.v (.bool true)) := fun l => by
  have := un0 l l
  rwa [decide_eq_true rfl] at this
 refine jz 0 (fun hfp => ?_)
 have hf1 := (fit_lst.1 (fit_agg.1 hfp (lst p.firsts) (by simp [cells]))).1
 have hf2 := (fit_lst.1 (fit_agg.1 hfp (lst p.seconds) (by simp [cells]))).1
 have hf3 := (fit_lst.1 (fit_agg.1 hfp (lst p.pages) (by simp [cells]))).1
 refine yS fun _ K1 => ?_
 refine yR ?_
 try dsimp only [St.put]
 refine yB rfl rfl rfl ?_
 try dsimp only [St.put]
 refine yB rfl rfl rfl ?_
 refine yA rfl rfl ?_
 refine yN ?_
 dsimp only [St.put]
 refine K1 _ ?_
 refine yS fun _ K2 => ?_
 refine yS fun _ K3 => ?_
 refine yR ?_
 refine yF rfl rfl rfl rfl ?_
 try dsimp only [St.put]
 refine cb rfl (c := fa p.text) (i0 (cs := cells p) rfl rfl (show 1 ≤ 4 by decide)) ?_
 refine yF rfl rfl rfl rfl ?_
 try dsimp only [St.put]
 refine cb rfl (c := fa p.text) (i0 (cs := cells p) rfl rfl (show 1 ≤ 4 by decide)) ?_
 try dsimp only [St.put]
 refine ae rfl (ba rfl rfl rfl (hSS) ?_)
 refine aa rfl (dr rfl rfl) ?_
 refine yM rfl rfl ?_
 refine yF rfl rfl rfl rfl ?_
 refine yL rfl rfl rfl ?_
 refine aa rfl (bg rfl rfl (List.length_map _)) ?_
 refine yF rfl rfl rfl rfl ?_
 refine yL rfl rfl rfl ?_
 refine aa rfl (bg rfl rfl (List.length_map _)) ?_
 refine aa rfl (qe rfl rfl rfl rfl) ?_
 refine aa rfl (cm rfl rfl (by constructor)) ?_
 refine yM rfl rfl ?_
 refine yF rfl rfl rfl rfl ?_
 refine yL rfl rfl rfl ?_
 refine aa rfl (bg rfl rfl (List.length_map _)) ?_
 refine yF rfl rfl rfl rfl ?_
 refine yL rfl rfl rfl ?_
 refine aa rfl (bg rfl rfl (List.length_map _)) ?_
 refine aa rfl (qe rfl rfl rfl rfl) ?_
 refine aa rfl (cm rfl rfl (by constructor)) ?_
 refine yM rfl rfl ?_
 refine yF rfl rfl rfl rfl ?_
 refine yL rfl rfl rfl ?_
 refine aa rfl (bg rfl rfl (List.length_map _)) ?_
 refine yF rfl rfl rfl rfl ?_
 refine yL rfl rfl rfl ?_
 refine aa rfl (bg rfl rfl (List.length_map _)) ?_
 refine aa rfl (qe rfl rfl rfl rfl) ?_
 refine aa rfl (cm rfl rfl (by constructor)) ?_
 refine yN ?_
 dsimp only [St.put]
 refine K3 _ ?_
 refine am rfl (fun hc => ?_) (fun hc => ?_)
 ·try replace hc := of_decide_eq_true hc
  refine yS fun _ K4 => ?_
  refine yR ?_
  refine yA rfl rfl ?_
  refine yN ?_
  dsimp only [St.put]
  refine K4 _ ?_
  refine aq ?_
  refine bh rfl (by constructor) zN zS ?_
  exact absurd hc (by decide)
 try replace hc := of_decide_eq_false hc
 refine aw ?_
 refine K2 _ ?_
 refine yS fun _ K5 => ?_
 refine yS fun _ K6 => ?_
 refine yR ?_
 refine yA rfl rfl ?_
 refine yN ?_
 dsimp only [St.put]
 refine K6 _ ?_
 refine ay ?_
 refine ci 10 ?_
 refine zQ ?_
 refine c4 (G) zX ?_
 dsimp only
 refine cz (X := Nat) (fun i => i ≤ p.firsts.length) (fun i => p.firsts.length - i) (fun i => [(5, .v (.int .i64 (i : Int)))]) (fun i G' => G') 0 rfl ?_ ?_ (fun _ _ h => h) ?_ ?_ ?_
 ·exact Nat.zero_le _
 ·exact zF
 ·rintro i hI
  exact zL
 ·exact fun _ _ _ _ h => .inl h
 rintro i hI
 dsimp only at hI ⊢
 refine yS fun _ K7 => ?_
 refine yS fun _ K8 => ?_
 refine yR ?_
 refine yM rfl rfl ?_
 refine yF rfl rfl rfl rfl ?_
 refine yL rfl rfl rfl ?_
 refine aa rfl (bg rfl rfl (List.length_map _)) ?_
 refine aa rfl (cg rfl rfl rfl) ?_
 refine yN ?_
 dsimp only [St.put]
 refine K8 _ ?_
 refine am rfl (fun hc => ?_) (fun hc => ?_)
 ·replace hc := of_decide_eq_true hc
  obtain ⟨x, hx⟩ : ∃ x, p.firsts[i]? = some x := da (by omega)
  refine aw ?_
  refine K7 _ ?_
  refine yS fun _ K9 => ?_
  refine ay ?_
  refine yS fun _ K10 => ?_
  refine et [(0, none), (1, none), (2, none), (3, none), (4, none), (5, none), (6, none), (7, none), (8, none), (9, none), (10, none)] (fun i => [].contains i) (fun i => [].contains i) (fun i => [0, 2, 3, 5, 7, 8, 10].contains i) [] (by kernel_rfl) (by kernel_rfl) ?_
  refine af rfl rfl rfl rfl (cj rfl rfl rfl) ?_
  try dsimp only [St.put]
  refine ar rfl rfl rfl rfl (br rfl rfl) ?_
  refine xM rfl rfl rfl rfl rfl ?_
  try dsimp only [St.put]
  refine af rfl rfl rfl rfl (bn rfl rfl rfl rfl (bi (by assumption)) (Enc.len _)) ?_
  try dsimp only [St.put]
  refine ar rfl rfl rfl rfl (dw rfl rfl (Enc.len _)) ?_
  refine af rfl rfl rfl rfl (cj rfl rfl rfl) ?_
  try dsimp only [St.put]
  refine ar rfl rfl rfl rfl (br rfl rfl) ?_
  refine xM rfl rfl rfl rfl rfl ?_
  try dsimp only [St.put]
  refine af rfl rfl rfl rfl (bn rfl rfl rfl rfl (bi (by assumption)) (Enc.len _)) ?_
  try dsimp only [St.put]
  refine ar rfl rfl rfl rfl (dw rfl rfl (Enc.len _)) ?_
  refine af rfl rfl rfl rfl (tn rfl rfl rfl) ?_
  refine ce ?_
  dsimp only [St.put]
  refine K10 _ ?_
  refine am rfl (fun hc => ?_) (fun hc => ?_)
  ·have hF : False := je hc rfl
   refine yS fun _ K11 => ?_
   refine yR ?_
   refine yA rfl rfl ?_
   refine yN ?_
   dsimp only [St.put]
   refine K11 _ ?_
   refine aq ?_
   refine bh rfl (by constructor) zN zS ?_
   exact hF.elim
  try replace hc := of_decide_eq_false hc
  refine aw ?_
  refine K9 _ ?_
  refine yR ?_
  refine yM rfl rfl ?_
  refine aa rfl (bp rfl rfl rfl (by omega)) ?_
  refine yA rfl rfl ?_
  refine yN ?_
  dsimp only [St.put]
  exact ⟨i + 1, by omega, by omega, ⟨⟨rfl, rfl⟩, zF, zB, zN, zX⟩⟩
 try replace hc := of_decide_eq_false hc
 refine cr ?_
 refine K5 _ ?_
 refine yS fun _ K12 => ?_
 refine yS fun _ K13 => ?_
 refine yR ?_
 refine yA rfl rfl ?_
 refine yN ?_
 dsimp only [St.put]
 refine K13 _ ?_
 refine ay ?_
 refine ci 10 ?_
 refine zQ ?_
 refine c4 (G) zX ?_
 dsimp only
 refine cz (X := Nat) (fun i => i ≤ p.seconds.length) (fun i => p.seconds.length - i) (fun i => [(6, .v (.int .i64 (i : Int)))]) (fun i G' => G') 0 rfl ?_ ?_ (fun _ _ h => h) ?_ ?_ ?_
 ·exact Nat.zero_le _
 ·exact zF
 ·rintro i hI
  exact zL
 ·exact fun _ _ _ _ h => .inl h
 rintro i hI
 dsimp only at hI ⊢
 refine yS fun _ K14 => ?_
 refine yS fun _ K15 => ?_
 refine yR ?_
 refine yM rfl rfl ?_
 refine yF rfl rfl rfl rfl ?_
 refine yL rfl rfl rfl ?_
 refine aa rfl (bg rfl rfl (List.length_map _)) ?_
 refine aa rfl (cg rfl rfl rfl) ?_
 refine yN ?_
 dsimp only [St.put]
 refine K15 _ ?_
 refine am rfl (fun hc => ?_) (fun hc => ?_)
 ·replace hc := of_decide_eq_true hc
  obtain ⟨x, hx⟩ : ∃ x, p.seconds[i]? = some x := da (by omega)
  refine aw ?_
  refine K14 _ ?_
  refine yS fun _ K16 => ?_
  refine ay ?_
  refine yS fun _ K17 => ?_
  refine et [(0, none), (1, none), (2, none), (3, none), (4, none), (5, none), (6, none), (7, none), (8, none), (9, none), (10, none)] (fun i => [].contains i) (fun i => [].contains i) (fun i => [0, 2, 3, 5, 7, 8, 10].contains i) [] (by kernel_rfl) (by kernel_rfl) ?_
  refine af rfl rfl rfl rfl (cj rfl rfl rfl) ?_
  try dsimp only [St.put]
  refine ar rfl rfl rfl rfl (br rfl rfl) ?_
  refine xM rfl rfl rfl rfl rfl ?_
  try dsimp only [St.put]
  refine af rfl rfl rfl rfl (bn rfl rfl rfl rfl (bi (by assumption)) (Enc.len _)) ?_
  try dsimp only [St.put]
  refine ar rfl rfl rfl rfl (dw rfl rfl (Enc.len _)) ?_
  refine af rfl rfl rfl rfl (cj rfl rfl rfl) ?_
  try dsimp only [St.put]
  refine ar rfl rfl rfl rfl (br rfl rfl) ?_
  refine xM rfl rfl rfl rfl rfl ?_
  try dsimp only [St.put]
  refine af rfl rfl rfl rfl (bn rfl rfl rfl rfl (bi (by assumption)) (Enc.len _)) ?_
  try dsimp only [St.put]
  refine ar rfl rfl rfl rfl (dw rfl rfl (Enc.len _)) ?_
  refine af rfl rfl rfl rfl (tn rfl rfl rfl) ?_
  refine ce ?_
  dsimp only [St.put]
  refine K17 _ ?_
  refine am rfl (fun hc => ?_) (fun hc => ?_)
  ·have hF : False := je hc rfl
   refine yS fun _ K18 => ?_
   refine yR ?_
   refine yA rfl rfl ?_
   refine yN ?_
   dsimp only [St.put]
   refine K18 _ ?_
   refine aq ?_
   refine bh rfl (by constructor) zN zS ?_
   exact hF.elim
  try replace hc := of_decide_eq_false hc
  refine aw ?_
  refine K16 _ ?_
  refine yR ?_
  refine yM rfl rfl ?_
  refine aa rfl (bp rfl rfl rfl (by omega)) ?_
  refine yA rfl rfl ?_
  refine yN ?_
  dsimp only [St.put]
  exact ⟨i + 1, by omega, by omega, ⟨⟨rfl, rfl⟩, zF, zB, zN, zX⟩⟩
 try replace hc := of_decide_eq_false hc
 refine cr ?_
 refine K12 _ ?_
 refine yS fun _ K19 => ?_
 refine yS fun _ K20 => ?_
 refine yR ?_
 refine yA rfl rfl ?_
 refine yN ?_
 dsimp only [St.put]
 refine K20 _ ?_
 refine ay ?_
 refine ci 10 ?_
 refine zQ ?_
 refine c4 (G) zX ?_
 dsimp only
 refine cz (X := Nat) (fun i => i ≤ p.pages.length) (fun i => p.pages.length - i) (fun i => [(7, .v (.int .i64 (i : Int))), (8, .any), (9, .any)]) (fun i G' => G') 0 rfl ?_ ?_ (fun _ _ h => h) ?_ ?_ ?_
 ·exact Nat.zero_le _
 ·exact zF
 ·rintro i hI
  exact zL
 ·exact fun _ _ _ _ h => .inl h
 rintro i hI
 dsimp only at hI ⊢
 refine yS fun _ K21 => ?_
 refine yS fun _ K22 => ?_
 refine yR ?_
 refine yM rfl rfl ?_
 refine yF rfl rfl rfl rfl ?_
 refine yL rfl rfl rfl ?_
 refine aa rfl (bg rfl rfl (List.length_map _)) ?_
 refine aa rfl (cg rfl rfl rfl) ?_
 refine yN ?_
 dsimp only [St.put]
 refine K22 _ ?_
 refine am rfl (fun hc => ?_) (fun hc => ?_)
 ·replace hc := of_decide_eq_true hc
  obtain ⟨x, hx⟩ : ∃ x, p.pages[i]? = some x := da (by omega)
  refine aw ?_
  refine K21 _ ?_
  refine yS fun _ K23 => ?_
  refine ay ?_
  refine yS fun _ K24 => ?_
  refine et [(0, none), (1, none), (2, none), (3, none), (4, none), (5, none), (6, none), (7, none), (8, none), (9, none), (10, some 11), (12, none), (13, none)] (fun i => [13].contains i) (fun i => [10, 11, 12, 13].contains i) (fun i => [0, 2, 3, 5, 7, 8].contains i) [] (by kernel_rfl) (by kernel_rfl) ?_
  refine af rfl rfl rfl rfl (cj rfl rfl rfl) ?_
  try dsimp only [St.put]
  refine ar rfl rfl rfl rfl (br rfl rfl) ?_
  refine xM rfl rfl rfl rfl rfl ?_
  try dsimp only [St.put]
  refine af rfl rfl rfl rfl (bn rfl rfl rfl rfl (bi (by assumption)) (Enc.len _)) ?_
  try dsimp only [St.put]
  refine ar rfl rfl rfl rfl (dw rfl rfl (Enc.len _)) ?_
  refine af rfl rfl rfl rfl (cj rfl rfl rfl) ?_
  try dsimp only [St.put]
  refine ar rfl rfl rfl rfl (br rfl rfl) ?_
  refine xM rfl rfl rfl rfl rfl ?_
  try dsimp only [St.put]
  refine af rfl rfl rfl rfl (bn rfl rfl rfl rfl (bi (by assumption)) (Enc.len _)) ?_
  try dsimp only [St.put]
  refine ar rfl rfl rfl rfl (dw rfl rfl (Enc.len _)) ?_
  refine g9 ?_
  refine ugb rfl rfl rfl rfl rfl rfl rfl rfl (by decide) (by simp) ?_
  try dsimp only [St.put]
  refine gu rfl rfl rfl (cn rfl rfl rfl zG rfl rfl (by rfl) ⟨zD, ?_⟩)
  try dsimp only [St.put]
  refine fe rfl rfl rfl rfl (cn rfl rfl rfl zG rfl rfl (by rfl) ?_)
  refine g8 ?_
  dsimp only [St.put]
  refine K24 _ ?_
  refine fq (i := 8) rfl zG zC ?_
  refine fq (i := 9) rfl zG zC ?_
  dsimp only
  refine yS fun _ K25 => ?_
  refine yR ?_
  refine yF rfl rfl rfl rfl ?_
  refine yL rfl rfl rfl ?_
  refine yF rfl rfl rfl rfl ?_
  refine yL rfl rfl rfl ?_
  refine aa rfl (qe rfl rfl rfl rfl) ?_
  refine yM rfl rfl ?_
  refine yF rfl rfl rfl rfl ?_
  refine yL rfl rfl rfl ?_
  refine yF rfl rfl rfl rfl ?_
  refine yL rfl rfl rfl ?_
  refine aa rfl (qe rfl rfl rfl rfl) ?_
  refine aa rfl (cm rfl rfl (by constructor)) ?_
  refine yM rfl rfl ?_
  refine yF rfl rfl rfl rfl ?_
  refine yL rfl rfl rfl ?_
  refine yF rfl rfl rfl rfl ?_
  refine yL rfl rfl rfl ?_
  refine aa rfl (qe rfl rfl rfl rfl) ?_
  refine aa rfl (cm rfl rfl (by constructor)) ?_
  refine yM rfl rfl ?_
  refine yF rfl rfl rfl rfl ?_
  refine yL rfl rfl rfl ?_
  refine yF rfl rfl rfl rfl ?_
  refine yL rfl rfl rfl ?_
  refine aa rfl (qe rfl rfl rfl rfl) ?_
  refine aa rfl (cm rfl rfl (by constructor)) ?_
  refine yM rfl rfl ?_
  refine yF rfl rfl rfl rfl ?_
  refine yL rfl rfl rfl ?_
  refine yF rfl rfl rfl rfl ?_
  refine yL rfl rfl rfl ?_
  try dsimp only [St.put]
  refine ae rfl (ba rfl rfl rfl (hSP _) ?_)
  refine aa rfl (dr rfl rfl) ?_
  refine aa rfl (cm rfl rfl (by constructor)) ?_
  refine yM rfl rfl ?_
  refine yF rfl rfl rfl rfl ?_
  refine yL rfl rfl rfl ?_
  refine yF rfl rfl rfl rfl ?_
  refine yL rfl rfl rfl ?_
  try dsimp only [St.put]
  refine ae rfl (ba rfl rfl rfl (hSP _) ?_)
  refine aa rfl (dr rfl rfl) ?_
  refine aa rfl (cm rfl rfl (by constructor)) ?_
  refine yN ?_
  dsimp only [St.put]
  refine K25 _ ?_
  refine am rfl (fun hc => ?_) (fun hc => ?_)
  ·try replace hc := of_decide_eq_true hc
   refine yS fun _ K26 => ?_
   refine yR ?_
   refine yA rfl rfl ?_
   refine yN ?_
   dsimp only [St.put]
   refine K26 _ ?_
   refine aq ?_
   refine bh rfl (by constructor) zN zS ?_
   exact absurd hc (by decide)
  try replace hc := of_decide_eq_false hc
  refine aw ?_
  refine K23 _ ?_
  refine yR ?_
  refine yM rfl rfl ?_
  refine aa rfl (bp rfl rfl rfl (by omega)) ?_
  refine yA rfl rfl ?_
  refine yN ?_
  dsimp only [St.put]
  exact ⟨i + 1, by omega, by omega, ⟨⟨rfl, rfl⟩, zF, zB, zN, zX⟩⟩
 try replace hc := of_decide_eq_false hc
 refine cr ?_
 refine K19 _ ?_
 refine yS fun _ K27 => ?_
 refine yR ?_
 refine yA rfl rfl ?_
 refine yN ?_
 dsimp only [St.put]
 refine K27 _ ?_
 refine aq ?_
 refine bh rfl (by constructor) zN zS ?_
 rfl
end Go.Proofs.YtbbdginipiljdaaGreatDoor
namespace Go.AB
open Go Go.RowKit
open Go.AB.Enc (cells)
open Go.PB (az aj PlaceD bj bl bk bw av ai c6 cv dj di)
def pgC (p : ai) (n : Int) : C := bif decide (gi p n = 0) then kd p else .v (.pointer none)
theorem ujm (m : Nat) (p : ai) (n : Int) : C.low m (pgC p n) := by
 unfold pgC
 cases decide (gi p n = 0)
 ·exact .v
 exact uda m p
theorem ucq {p : ai} {n : Int} (h : gi p n ≠ 0) : pgC p n = .v (.pointer none) := by unfold pgC; rw [decide_eq_false h]; rfl
theorem ujl {p : ai} {n : Int} (h : gi p n = 0) : pgC p n = .elem [lst p.text, lst p.firsts, lst p.seconds, lst p.pages, lst (p.pages.map fun x => (fj p.text x : Int)), lst (p.pages.map (eb p.text)), lst (p.pages.map (er p.text))] := by
 unfold pgC
 rw [decide_eq_true h, cond_true, zc (xr h).1]
theorem uds {α β : Type} {l : List α} {k : Nat} {x : α} (f : α → β) (h : l[k]? = some x) : (l.map f)[k]? = some (f x) := by rw [List.getElem?_map, h]; rfl
end Go.AB
namespace Go.Proofs.YtbbdginipiljdaaGreatDoor
set_option maxRecDepth 10000
open Go Go.RowKit Go.AB
open Go.AB.Enc (cells)
open Go.PB (az aj PlaceD bj bl bk bw av ai c6 cv dj di)
theorem ucy (n : Nat) (p : ai) (m : Int) : ll n kx Tryz.prog 42 [val p, .v (.int .i64 m)] (.tup [pgC p m, .v (.int .i64 (gi p m))]) := fun G nx hF hnx => by
 refine lz (G) (nx) Tryz.func42 rfl (.tup (cp (ujm _ _ _) (cp .v dp))) zN (fun hlt => zH) ?_
 simp only [Tryz.ntmps42, List.length_cons, List.length_nil, Nat.reduceAdd, Nat.reduceSub]
 refine bx fun hlt => ?_
 dsimp only at hlt
 refine yS fun _ K1 => ?_
 refine yR ?_
 try dsimp only [St.put]
 refine yB rfl rfl rfl ?_
 refine yA rfl rfl ?_
 refine yA rfl rfl ?_
 refine yN ?_
 dsimp only [St.put]
 refine K1 _ ?_
 refine yS fun _ K2 => ?_
 refine yR ?_
 refine yE rfl rfl rfl ?_
 try dsimp only [St.put]
 refine ae rfl (iw rfl rfl rfl (qc n p) zG (by dsimp only [St.put]; omega) ?_)
 refine yM rfl rfl ?_
 refine yX rfl rfl rfl rfl ?_
 refine yX rfl rfl rfl rfl ?_
 refine yA rfl rfl ?_
 refine yA rfl rfl ?_
 refine yN ?_
 dsimp only [St.put]
 refine K2 _ ?_
 refine yS fun _ K3 => ?_
 refine yS fun _ K4 => ?_
 refine yR ?_
 refine yM rfl rfl ?_
 refine aa rfl (fl rfl rfl rfl) ?_
 refine yN ?_
 dsimp only [St.put]
 refine K4 _ ?_
 refine am rfl (fun hc => ?_) (fun hc => ?_)
 ·have h0 : c7 p ≠ 0 := je hc
  have hE : gi p m = c7 p := by simp [gi, h0]
  refine yS fun _ K5 => ?_
  refine yR ?_
  refine yM rfl rfl ?_
  refine yA rfl rfl ?_
  refine yA rfl rfl ?_
  refine yN ?_
  dsimp only [St.put]
  refine K5 _ ?_
  refine aq ?_
  refine mh rfl (by constructor) (by constructor) zN zS ?_ ?_
  ·rw [ucq (by rw [hE]; exact h0)]
  rw [hE]
 have h0 : c7 p = 0 := gq hc
 have hnp := (m7 h0).1.np
 refine aw ?_
 refine K3 _ ?_
 refine yS fun _ K6 => ?_
 refine yS fun _ K7 => ?_
 refine yR ?_
 refine yF rfl rfl rfl rfl ?_
 refine yL rfl rfl rfl ?_
 refine aa rfl (bg rfl rfl (List.length_map _)) ?_
 refine aa rfl (f9 rfl rfl rfl (by omega)) ?_
 refine yM rfl rfl ?_
 try dsimp only [St.put]
 refine ae rfl (eg rfl rfl rfl (by decide) (by decide) zR (by decide) ?_)
 try dsimp only [St.put]
 refine ae rfl (ba rfl rfl rfl (ou _ _ [_]) ?_)
 refine aa rfl (dr rfl rfl) ?_
 refine yN ?_
 dsimp only [St.put]
 refine K7 _ ?_
 refine am rfl (fun hc => ?_) (fun hc => ?_)
 ·have h1 : inB m 0 ((p.pages.length : Int) - 1) = false := by rw [gr] at hc; simpa using hc
  have hE : gi p m = 2 := by simp [gi, h0, h1]
  refine yS fun _ K8 => ?_
  refine yR ?_
  refine yA rfl rfl ?_
  refine yA rfl rfl ?_
  refine yN ?_
  dsimp only [St.put]
  refine K8 _ ?_
  refine aq ?_
  refine mh rfl (by constructor) (by constructor) zN zS ?_ ?_
  ·rw [ucq (by rw [hE]; decide)]
  rw [hE]
 have h1 : inB m 0 ((p.pages.length : Int) - 1) = true := by rw [gr] at hc; simpa using hc
 have hE : gi p m = 0 := by simp [gi, h0, h1]
 refine aw ?_
 refine K6 _ ?_
 refine yS fun _ K9 => ?_
 refine yR ?_
 refine yM rfl rfl ?_
 refine yA rfl rfl ?_
 refine yA rfl rfl ?_
 refine yN ?_
 dsimp only [St.put]
 refine K9 _ ?_
 refine aq ?_
 refine mh rfl (by constructor) (by constructor) zN zS ?_ ?_
 ·unfold pgC; rw [decide_eq_true hE]; rfl
 rw [hE]
end Go.Proofs.YtbbdginipiljdaaGreatDoor
namespace Go.AB
open Go Go.RowKit
open Go.AB.Enc (cells)
open Go.PB (az aj PlaceD bj bl bk bw av ai c6 cv dj di)
/-- who has read a page, of some sides -/
def pg (p : ai) (x : av) : Nat → List Int
 | 0 => []
 | k + 1 => pg p x k ++ bif decide (0 ≤ em (decide (k = 1)) x) then [(sdN p k : Int) + em (decide (k = 1)) x] else []
theorem ui0 (p : ai) (x : av) : pg p x 2 = c5 p x := by
 show ([] ++ bif decide (0 ≤ x.fst) then [((0 : Nat) : Int) + x.fst] else []) ++ (bif decide (0 ≤ x.snd) then [(p.firsts.length : Int) + x.snd] else []) = c5 p x
 rw [List.nil_append, show ((0 : Nat) : Int) + x.fst = x.fst by omega]
 rfl
theorem ucc (p : ai) (x : av) : ∀ k, (pg p x k).length ≤ k
 | 0 => Nat.le_refl _
 | k + 1 => by
  have := ucc p x k
  simp only [pg, List.length_append]
  cases decide (0 ≤ em (decide (k = 1)) x)
  ·rw [cond_false]; simp; omega
  rw [cond_true]; simp; omega
theorem uk3 {α β : Type} {l : List α} {j : Nat} {x : α} (f : α → β) (h : l[j]? = some x) : (l.take (j + 1)).map f = (l.take j).map f ++ [f x] := by rw [List.take_add_one, h, Option.toList_some, List.map_append]; rfl
theorem ulh {p : ai} : (!(bf (ax p) (ck p)).any fun n => decide (n < 0)) = gw p := by
 rw [Bool.eq_iff_iff, Bool.not_eq_true', ← Bool.not_eq_true, List.any_eq_true]
 unfold gw bf
 rw [List.all_eq_true]
 constructor
 ·intro h i hi
  refine decide_eq_true ?_
  rcases Int.lt_or_le (ck p i) 0 with q | q
  ·exact absurd ⟨_, List.mem_map.2 ⟨i, hi, rfl⟩, decide_eq_true q⟩ h
  exact q
 rintro h ⟨z, hz, hl⟩
 obtain ⟨i, hi, rfl⟩ := List.mem_map.1 hz
 have := of_decide_eq_true (h i hi)
 have := of_decide_eq_true hl
 omega
end Go.AB
namespace Go.Proofs.YtbbdginipiljdaaGreatDoor
set_option maxRecDepth 10000
open Go Go.RowKit Go.AB
open Go.AB.Enc (cells)
open Go.PB (az aj PlaceD bj bl bk bw av ai c6 cv dj di)
theorem uio (z : Int) : Pure Tryz.prog 98 [.v (.int .i64 z)] (.v (.bool (decide (z < 0)))) := by
 refine cw Tryz.func98 rfl (fun m => .v) fun G nx => ?_
 simp only [Tryz.ntmps98, List.length_cons, List.length_nil, Nat.reduceAdd, Nat.reduceSub]
 refine bx fun hlt => ?_
 dsimp only at hlt
 refine yS fun _ K1 => ?_
 refine yR ?_
 refine yA rfl rfl ?_
 refine yN ?_
 dsimp only [St.put]
 refine K1 _ ?_
 refine yS fun _ K2 => ?_
 refine yR ?_
 refine yM rfl rfl ?_
 refine aa rfl (cg rfl rfl rfl) ?_
 refine yA rfl rfl ?_
 refine yN ?_
 dsimp only [St.put]
 refine K2 _ ?_
 refine aq ?_
 refine bh rfl (by constructor) zN zS ?_
 rfl
theorem ule (p : ai) : Pure Tryz.prog 97 [.elem (k7 p)] (.fn (.func 110) [.elem [.elem (k7 p)]]) := by
 refine cw Tryz.func97 rfl (fun m => (.fn (cp (.elem (cp (.elem (cp (cc _ _) (cp (cc _ _) (cp (cc _ _) (cp (cc _ _) (cp (cc _ _) (cp (cc _ _) (cp (cc _ _) dp)))))))) dp)) dp))) fun G nx => ?_
 simp only [Tryz.ntmps97, List.length_cons, List.length_nil, Nat.reduceAdd, Nat.reduceSub]
 refine bx fun hlt => ?_
 dsimp only at hlt
 refine yS fun _ K1 => ?_
 refine yR ?_
 try dsimp only [St.put]
 refine yB rfl rfl rfl ?_
 refine yA rfl rfl ?_
 refine yN ?_
 dsimp only [St.put]
 refine K1 _ ?_
 refine yS fun _ K2 => ?_
 refine yR ?_
 refine aa rfl (rf rfl rfl) ?_
 refine yA rfl rfl ?_
 refine yN ?_
 dsimp only [St.put]
 refine K2 _ ?_
 refine aq ?_
 refine bh rfl (by constructor) zN zS ?_
 rfl
set_option maxHeartbeats 2000000 in
theorem ujz (n : Nat) (p : ai) (h : ey p) : ll n kx Tryz.prog 79 [.elem (k7 p)] (.tup [val (ij p (ck p) (dg p)), .v (.bool (gw p))]) := fun G nx hF hnx => by
 refine lz (G) (nx) Tryz.func79 rfl (.tup (cp (eh _ _) (cp .v dp))) zN (fun hlt => zH) ?_
 simp only [Tryz.ntmps79, List.length_cons, List.length_nil, Nat.reduceAdd, Nat.reduceSub]
 refine bx fun hlt => ?_
 dsimp only at hlt
 have hn1 := h.nf
 have hn2 := h.ns
 have hnp := h.np
 have hnr : ax p = p.firsts.length + p.seconds.length := rfl
 have hal := n8 h.text
 refine yS fun _ K1 => ?_
 refine yR ?_
 try dsimp only [St.put]
 refine ae rfl (dd rfl ?_)
 refine yA rfl rfl ?_
 refine yN ?_
 dsimp only [St.put]
 refine K1 _ ?_
 refine yS fun _ K2 => ?_
 refine yR ?_
 try dsimp only [St.put]
 refine ae rfl (dd rfl ?_)
 refine yN ?_
 dsimp only [St.put]
 refine K2 _ ?_
 refine n5 (nx + 1) 0 _ _ 3 1 zG rfl (by decide) ?_
 refine n5 (nx + 1) 1 _ _ 3 1 zG rfl (by decide) ?_
 refine n5 (nx + 1) 2 _ _ 40 1 zG rfl (by decide) ?_
 dsimp only [List.set_cons_zero, List.set_cons_succ]
 refine yS fun _ K3 => ?_
 refine yS fun _ K4 => ?_
 refine yR ?_
 refine yM rfl rfl ?_
 try dsimp only [St.put]
 refine ae rfl (ba rfl rfl rfl (ule p) ?_)
 refine yN ?_
 dsimp only [St.put]
 refine K4 _ ?_
 refine ay ?_
 refine ci 15 ?_
 refine zQ ?_
 refine c4 ((ah (ah (ah (ah (ah G nx (.box 0 [.list [] .nil, .list [] .nil, .list [] .nil])) (nx + 1) (.box (0) [.list ((bf 0 (ck p)).map cells) (.tip (nx + 1 + 1)), .list ((bf 0 (dg p)).map cells) (.tip (nx + 1 + 1 + 1)), .list (((p.pages.take 0).map (c5 p)).map cells) (.tip (nx + 1 + 1 + 1 + 1))])) (nx + 1 + 1) (.tip (bf 0 (ck p)).length 3 1)) (nx + 1 + 1 + 1) (.tip (bf 0 (dg p)).length 3 1)) (nx + 1 + 1 + 1 + 1) (.tip ((p.pages.take 0).map (c5 p)).length 40 1))) zX ?_
 dsimp only
 refine ufp [15] (fun k => (ah (ah (ah (ah (ah G nx (.box 0 [.list [] .nil, .list [] .nil, .list [] .nil])) (nx + 1) (.box (k) [.list ((bf k (ck p)).map cells) (.tip (nx + 1 + 1)), .list ((bf 0 (dg p)).map cells) (.tip (nx + 1 + 1 + 1)), .list (((p.pages.take 0).map (c5 p)).map cells) (.tip (nx + 1 + 1 + 1 + 1))])) (nx + 1 + 1) (.tip (bf k (ck p)).length 3 1)) (nx + 1 + 1 + 1) (.tip (bf 0 (dg p)).length 3 1)) (nx + 1 + 1 + 1 + 1) (.tip ((p.pages.take 0).map (c5 p)).length 40 1))) (fun k => [(15, .v (.int .i64 (ck p k)))]) (ulf n p h) (fun k => zG) (by (try dsimp only); omega) rfl rfl (fun _ => rfl) ?_ ?_ ?_ (fun lr k hrk => ?_) ?_
 ·intro k
  rfl
 ·exact zX
 ·intro k
  exact zH
 ·have hll := gk k (ck p)
  refine yR ?_
  refine yA rfl rfl ?_
  refine yN ?_
  dsimp only [St.put]
  show AW _ _ _ _ _
  refine ay ?_
  refine yR ?_
  refine aa rfl (dv rfl rfl) ?_
  try dsimp only [St.put]
  refine cb rfl (eo rfl rfl zG trivial (by first | rfl | assumption)) ?_
  refine yM rfl rfl ?_
  try dsimp only [St.put]
  refine ae rfl (eg rfl rfl rfl (by decide) (by decide) zR (by decide) ?_)
  try dsimp only [St.put]
  refine ae rfl (ib ([ck p k]) rfl rfl zG zE rfl rfl zA ?_ zA)
  refine aa rfl (dv rfl rfl) ?_
  try dsimp only [St.put]
  refine ae rfl (jx rfl rfl rfl zG (by constructor) rfl zO ?_)
  refine yN ?_
  dsimp only [St.put]
  rw [← qt k (ck p)]
  exact zX
 dsimp only
 refine K3 _ ?_
 refine yS fun _ K5 => ?_
 refine yS fun _ K6 => ?_
 refine yR ?_
 refine yM rfl rfl ?_
 refine aa rfl (ov rfl rfl) ?_
 refine yF rfl rfl rfl rfl ?_
 refine yF rfl rfl rfl rfl ?_
 refine yL rfl rfl rfl ?_
 refine aa rfl (bg rfl rfl (List.length_map _)) ?_
 refine yM rfl rfl ?_
 refine yN ?_
 dsimp only [St.put]
 refine K6 _ ?_
 refine ay ?_
 refine ci 29 ?_
 refine zQ ?_
 refine c4 ((ah (ah (ah (ah (ah G nx (.box 0 [.list [] .nil, .list [] .nil, .list [] .nil])) (nx + 1) (.box ((ax p)) [.list ((bf (ax p) (ck p)).map cells) (.tip (nx + 1 + 1)), .list ((bf 0 (dg p)).map cells) (.tip (nx + 1 + 1 + 1)), .list (((p.pages.take 0).map (c5 p)).map cells) (.tip (nx + 1 + 1 + 1 + 1))])) (nx + 1 + 1) (.tip (bf (ax p) (ck p)).length 3 1)) (nx + 1 + 1 + 1) (.tip (bf 0 (dg p)).length 3 1)) (nx + 1 + 1 + 1 + 1) (.tip ((p.pages.take 0).map (c5 p)).length 40 1))) zX ?_
 dsimp only
 refine cz (X := Nat) (fun j => j ≤ p.pages.length) (fun j => p.pages.length - j) (fun j => [(6, .any), (7, .any), (8, .any), (9, .any), (10, .any), (11, .any), (12, .any), (28, .v (.int .i64 (j : Int)))]) (fun j G' => (ah (ah (ah (ah (ah G nx (.box 0 [.list [] .nil, .list [] .nil, .list [] .nil])) (nx + 1) (.box ((ax p + 2 * j)) [.list ((bf (ax p) (ck p)).map cells) (.tip (nx + 1 + 1)), .list ((bf j (dg p)).map cells) (.tip (nx + 1 + 1 + 1)), .list (((p.pages.take j).map (c5 p)).map cells) (.tip (nx + 1 + 1 + 1 + 1))])) (nx + 1 + 1) (.tip (bf (ax p) (ck p)).length 3 1)) (nx + 1 + 1 + 1) (.tip (bf j (dg p)).length 3 1)) (nx + 1 + 1 + 1 + 1) (.tip ((p.pages.take j).map (c5 p)).length 40 1))) 0 rfl ?_ ?_ ?_ ?_ ?_ ?_
 ·exact Nat.zero_le _
 ·exact zF
 ·exact zX
 ·rintro j hI
  exact zL
 ·rintro j hI
  exact zH
 rintro j hJ
 dsimp only at hJ ⊢
 refine yS fun _ K7 => ?_
 refine yR ?_
 refine aa rfl (cg rfl rfl rfl) ?_
 refine yN ?_
 dsimp only [St.put]
 refine K7 _ ?_
 refine yS fun _ K8 => ?_
 refine am rfl (fun hc => ?_) (fun hc => ?_)
 ·replace hc := of_decide_eq_true hc
  obtain ⟨x, hx⟩ : ∃ x, p.pages[j]? = some x := da (by omega)
  have hw1 : (p.pages.map fun x => (fj p.text x : Int))[j]? = some (fj p.text x : Int) := uds (fun x => (fj p.text x : Int)) hx
  have hw2 := uds (eb p.text) hx
  have hgl := rq p.text x
  have hwx := uw p.text x
  have hll := gk j (dg p)
  have hp := pageB_true.1 (h.page j x hx)
  have hp1 := hp.fst
  have hp2 := hp.snd
  have hll2 : ((p.pages.take j).map (c5 p)).length ≤ 8 := by rw [List.length_map, List.length_take]; omega
  refine aw ?_
  refine K8 _ ?_
  refine yS fun _ K9 => ?_
  refine ay ?_
  refine yS fun _ K10 => ?_
  refine yR ?_
  refine yM rfl rfl ?_
  refine aa rfl (bn rfl rfl rfl rfl (bi (by assumption)) (Enc.len _)) ?_
  refine yE rfl rfl rfl ?_
  try dsimp only [St.put]
  refine ae rfl (dd rfl ?_)
  refine yA rfl rfl ?_
  try dsimp only [St.put]
  refine ae rfl (cn rfl rfl rfl zG rfl rfl (by rfl) ?_)
  refine yN ?_
  dsimp only [St.put]
  refine K10 _ ?_
  refine fq (i := 7) rfl zG zC ?_
  dsimp only
  refine yS fun _ K11 => ?_
  refine et [(0, none), (1, none), (2, none), (3, none), (4, none), (5, none), (6, none), (7, none), (8, none), (9, none), (10, none), (11, none), (12, none), (13, none), (14, none), (15, none), (16, none), (17, none), (18, none), (19, none), (20, none), (21, none)] (fun i => [19, 21].contains i) (fun i => [18, 19, 21].contains i) (fun i => [0, 2, 3, 4, 6, 7, 9, 10, 11, 13, 14, 16, 17, 20].contains i) [nx + 1] (by kernel_rfl) (by kernel_rfl) ?_
  refine af rfl rfl rfl rfl (dv rfl rfl) ?_
  try dsimp only [St.put]
  refine ar rfl rfl rfl rfl (eo rfl rfl zG (by simp) (by first | rfl | assumption)) ?_
  refine xM rfl rfl rfl rfl rfl ?_
  refine af rfl rfl rfl rfl (ov rfl rfl) ?_
  refine af rfl rfl rfl rfl (cj rfl rfl rfl) ?_
  try dsimp only [St.put]
  refine ar rfl rfl rfl rfl (br rfl rfl) ?_
  refine xM rfl rfl rfl rfl rfl ?_
  try dsimp only [St.put]
  refine af rfl rfl rfl rfl (bn rfl rfl rfl rfl (bi (by assumption)) (Enc.len _)) ?_
  try dsimp only [St.put]
  refine ar rfl rfl rfl rfl (br rfl rfl) ?_
  refine xM rfl rfl rfl rfl rfl ?_
  refine af rfl rfl rfl rfl (ov rfl rfl) ?_
  refine af rfl rfl rfl rfl (cj rfl rfl rfl) ?_
  try dsimp only [St.put]
  refine ar rfl rfl rfl rfl (br rfl rfl) ?_
  refine xM rfl rfl rfl rfl rfl ?_
  try dsimp only [St.put]
  refine af rfl rfl rfl rfl (bn rfl rfl rfl rfl (bi (by assumption)) (Enc.len _)) ?_
  try dsimp only [St.put]
  refine ar rfl rfl rfl rfl (br rfl rfl) ?_
  refine af rfl rfl rfl rfl (bg rfl rfl (List.length_map _)) ?_
  refine af rfl rfl rfl rfl (f9 rfl rfl rfl (by omega)) ?_
  refine g9 ?_
  try dsimp only [St.put]
  refine gu rfl rfl rfl (eg rfl rfl rfl (by decide) (by decide) zR (by decide) ⟨zD, ?_⟩)
  try dsimp only [St.put]
  refine fe rfl rfl rfl rfl (ib ([(fj p.text x : Int) - ((eb p.text x).length : Int)]) rfl rfl zG zE rfl rfl zA ?_ zA)
  refine ed rfl rfl rfl rfl (dv rfl rfl) ?_
  try dsimp only [St.put]
  refine fe rfl rfl rfl rfl (jx rfl rfl rfl zG (by constructor) rfl zO ?_)
  refine g8 ?_
  dsimp only [St.put]
  have e := qt j (dg p)
  rw [show dg p j = (fj p.text x : Int) - ((eb p.text x).length : Int) from ucu hx _] at e
  simp only [← e]
  refine K11 _ ?_
  refine yS fun _ K12 => ?_
  refine yR ?_
  refine yA rfl rfl ?_
  refine yN ?_
  dsimp only [St.put]
  refine K12 _ ?_
  refine lk 8 3 1 rfl (by decide) ?_
  dsimp only [List.set_cons_zero, List.set_cons_succ]
  refine yS fun _ K13 => ?_
  refine yR ?_
  refine yA rfl rfl ?_
  refine yN ?_
  dsimp only [St.put]
  refine K13 _ ?_
  refine yS fun _ K14 => ?_
  refine yS fun _ K15 => ?_
  refine yR ?_
  try dsimp only [St.put]
  refine cb rfl (nh (n := 6) (m := n) rfl rfl zG rfl) ?_
  refine yM rfl rfl ?_
  refine yN ?_
  dsimp only [St.put]
  refine K15 _ ?_
  refine ay ?_
  refine ci 56 ?_
  refine zQ ?_
  refine c4 (ah ((ah (ah (ah (ah (ah G nx (.box 0 [.list [] .nil, .list [] .nil, .list [] .nil])) (nx + 1) (.box ((ax p + 2 * j + 1)) [.list ((bf (ax p) (ck p)).map cells) (.tip (nx + 1 + 1)), .list ((bf (j + 1) (dg p)).map cells) (.tip (nx + 1 + 1 + 1)), .list (((p.pages.take j).map (c5 p)).map cells) (.tip (nx + 1 + 1 + 1 + 1))])) (nx + 1 + 1) (.tip (bf (ax p) (ck p)).length 3 1)) (nx + 1 + 1 + 1) (.tip (bf (j + 1) (dg p)).length 3 1)) (nx + 1 + 1 + 1 + 1) (.tip ((p.pages.take j).map (c5 p)).length 40 1))) (nx + 1 + 1 + 1 + 1 + 1 + 1) (.tip 0 3 1)) zX ?_
  dsimp only
  refine cz (X := Nat) (fun k => k ≤ 2) (fun k => 2 - k) (fun k => [(8, .list ((pg p x k).map cells) (.tip (nx + 1 + 1 + 1 + 1 + 1 + 1))), (9, .v (.int .i64 (sdN p k : Int))), (11, .any), (12, .any), (55, .v (.int .i64 (k : Int)))]) (fun k G' => ah ((ah (ah (ah (ah (ah G nx (.box 0 [.list [] .nil, .list [] .nil, .list [] .nil])) (nx + 1) (.box ((ax p + 2 * j + 1)) [.list ((bf (ax p) (ck p)).map cells) (.tip (nx + 1 + 1)), .list ((bf (j + 1) (dg p)).map cells) (.tip (nx + 1 + 1 + 1)), .list (((p.pages.take j).map (c5 p)).map cells) (.tip (nx + 1 + 1 + 1 + 1))])) (nx + 1 + 1) (.tip (bf (ax p) (ck p)).length 3 1)) (nx + 1 + 1 + 1) (.tip (bf (j + 1) (dg p)).length 3 1)) (nx + 1 + 1 + 1 + 1) (.tip ((p.pages.take j).map (c5 p)).length 40 1))) (nx + 1 + 1 + 1 + 1 + 1 + 1) (.tip (pg p x k).length 3 1)) 0 rfl ?_ ?_ ?_ ?_ ?_ ?_
  ·exact Nat.zero_le _
  ·exact zF
  ·exact zX
  ·rintro k hI
   exact zL
  ·rintro k hI
   exact zH
  rintro k hK
  dsimp only at hK ⊢
  refine yS fun _ K16 => ?_
  refine yR ?_
  refine aa rfl (cg rfl rfl rfl) ?_
  refine yN ?_
  dsimp only [St.put]
  refine K16 _ ?_
  refine yS fun _ K17 => ?_
  refine am rfl (fun hc => ?_) (fun hc => ?_)
  ·replace hc := of_decide_eq_true hc
   have hk : k < 2 := by omega
   have hsd : sdN p k ≤ 3 ∧ (d7 p (decide (k = 1))).length ≤ 3 ∧ -1 ≤ em (decide (k = 1)) x ∧ em (decide (k = 1)) x ≤ 3 := by
    have : k = 0 ∨ k = 1 := by omega
    rcases this with rfl | rfl
    ·exact ⟨Nat.zero_le _, hn1, by show -1 ≤ x.fst; omega, by show x.fst ≤ 3; omega⟩
    exact ⟨hn1, hn2, by show -1 ≤ x.snd; omega, by show x.snd ≤ 3; omega⟩
   have hst : pg p x (k + 1) = pg p x k ++ bif decide (0 ≤ em (decide (k = 1)) x) then [(sdN p k : Int) + em (decide (k = 1)) x] else [] := rfl
   have hrl := ucc p x k
   refine aw ?_
   refine K17 _ ?_
   refine yS fun _ K18 => ?_
   refine ay ?_
   refine yS fun _ K19 => ?_
   refine yR ?_
   refine aa rfl (wj (k := k) (m := 2) (sz := 3) rfl rfl rfl rfl hk (vf hk)) ?_
   try dsimp only [St.put]
   refine ae rfl (dd rfl ?_)
   try dsimp only [St.put]
   refine ae rfl (cn rfl rfl rfl zG rfl rfl (by rfl) ?_)
   refine yN ?_
   dsimp only [St.put]
   refine K19 _ ?_
   refine fq (i := 11) rfl zG zC ?_
   dsimp only
   refine yS fun _ K20 => ?_
   refine yS fun _ K21 => ?_
   refine yR ?_
   refine yF rfl rfl rfl rfl ?_
   refine yL rfl rfl rfl ?_
   refine yE rfl rfl rfl ?_
   try dsimp only [St.put]
   refine ae rfl (ba rfl rfl rfl (yo (decide (k = 1)) x) ?_)
   refine yA rfl rfl ?_
   refine yN ?_
   dsimp only [St.put]
   refine K21 _ ?_
   refine yS fun _ K22 => ?_
   refine yR ?_
   refine yM rfl rfl ?_
   refine aa rfl (l5 rfl rfl rfl) ?_
   refine yN ?_
   dsimp only [St.put]
   refine K22 _ ?_
   refine am rfl (fun hc => ?_) (fun hc => ?_)
   ·have hyes : 0 ≤ em (decide (k = 1)) x := of_decide_eq_true hc
    refine yR ?_
    refine yM rfl rfl ?_
    refine yM rfl rfl ?_
    refine yM rfl rfl ?_
    refine aa rfl (bp rfl rfl rfl (by omega)) ?_
    try dsimp only [St.put]
    refine ae rfl (eg rfl rfl rfl (by decide) (by decide) zR (by decide) ?_)
    try dsimp only [St.put]
    refine ae rfl (ib ([(sdN p k : Int) + em (decide (k = 1)) x]) rfl rfl zG zE rfl rfl zA ?_ zA)
    refine yA rfl rfl ?_
    refine yN ?_
    dsimp only [St.put]
    refine K20 _ ?_
    refine et [(0, none), (1, none), (2, none), (3, none), (4, none), (5, none), (6, none), (7, none), (8, none), (9, none), (10, none)] (fun i => [7].contains i) (fun i => [7].contains i) (fun i => [0, 1, 3, 4, 5, 8, 9, 10].contains i) [] (by kernel_rfl) (by kernel_rfl) ?_
    refine xM rfl rfl rfl rfl rfl ?_
    refine af rfl rfl rfl rfl (cj rfl rfl rfl) ?_
    try dsimp only [St.put]
    refine ar rfl rfl rfl rfl (br rfl rfl) ?_
    refine xM rfl rfl rfl rfl rfl ?_
    refine af rfl rfl rfl rfl (ov rfl rfl) ?_
    refine af rfl rfl rfl rfl (cj rfl rfl rfl) ?_
    try dsimp only [St.put]
    refine ar rfl rfl rfl rfl (c := val p) (i0 (cs := k7 p) rfl rfl (show 4 ≤ 7 by decide)) ?_
    refine g9 ?_
    try dsimp only [St.put]
    refine fe rfl rfl rfl rfl (ba rfl rfl rfl (p7 (decide (k = 1)) p) ?_)
    refine ed rfl rfl rfl rfl (bg rfl rfl (List.length_map _)) ?_
    refine ed rfl rfl rfl rfl (bp rfl rfl rfl (by omega)) ?_
    refine ed rfl rfl rfl rfl (fw rfl (by constructor)) ?_
    refine g8 ?_
    dsimp only [St.put]
    refine K18 _ ?_
    refine yR ?_
    refine aa rfl (bp rfl rfl rfl (by omega)) ?_
    refine yM rfl rfl ?_
    refine yN ?_
    dsimp only [St.put]
    rw [show ((sdN p k : Nat) : Int) + ((d7 p (decide (k = 1))).length : Int) = ((sdN p (k + 1) : Nat) : Int) by rw [yn hk]; omega]
    first
    | (have z : 0 ≤ em (decide (k = 1)) x := hyes
       rw [decide_eq_true z, cond_true] at hst
       rw [← hst]
       exact ⟨k + 1, by omega, by omega, ⟨⟨rfl, rfl⟩, zF, zB, zN, zX⟩⟩)
    | (have z : ¬ 0 ≤ em (decide (k = 1)) x := hno
       rw [decide_eq_false z, cond_false, List.append_nil] at hst
       rw [← hst]
       exact ⟨k + 1, by omega, by omega, ⟨⟨rfl, rfl⟩, zF, zB, zN, zX⟩⟩)
   have hno : ¬ 0 ≤ em (decide (k = 1)) x := of_decide_eq_false hc
   refine aw ?_
   refine K20 _ ?_
   refine et [(0, none), (1, none), (2, none), (3, none), (4, none), (5, none), (6, none), (7, none), (8, none), (9, none), (10, none)] (fun i => [7].contains i) (fun i => [7].contains i) (fun i => [0, 1, 3, 4, 5, 8, 9, 10].contains i) [] (by kernel_rfl) (by kernel_rfl) ?_
   refine xM rfl rfl rfl rfl rfl ?_
   refine af rfl rfl rfl rfl (cj rfl rfl rfl) ?_
   try dsimp only [St.put]
   refine ar rfl rfl rfl rfl (br rfl rfl) ?_
   refine xM rfl rfl rfl rfl rfl ?_
   refine af rfl rfl rfl rfl (ov rfl rfl) ?_
   refine af rfl rfl rfl rfl (cj rfl rfl rfl) ?_
   try dsimp only [St.put]
   refine ar rfl rfl rfl rfl (c := val p) (i0 (cs := k7 p) rfl rfl (show 4 ≤ 7 by decide)) ?_
   refine g9 ?_
   try dsimp only [St.put]
   refine fe rfl rfl rfl rfl (ba rfl rfl rfl (p7 (decide (k = 1)) p) ?_)
   refine ed rfl rfl rfl rfl (bg rfl rfl (List.length_map _)) ?_
   refine ed rfl rfl rfl rfl (bp rfl rfl rfl (by omega)) ?_
   refine ed rfl rfl rfl rfl (fw rfl (by constructor)) ?_
   refine g8 ?_
   dsimp only [St.put]
   refine K18 _ ?_
   refine yR ?_
   refine aa rfl (bp rfl rfl rfl (by omega)) ?_
   refine yM rfl rfl ?_
   refine yN ?_
   dsimp only [St.put]
   rw [show ((sdN p k : Nat) : Int) + ((d7 p (decide (k = 1))).length : Int) = ((sdN p (k + 1) : Nat) : Int) by rw [yn hk]; omega]
   first
   | (have z : 0 ≤ em (decide (k = 1)) x := hyes
      rw [decide_eq_true z, cond_true] at hst
      rw [← hst]
      exact ⟨k + 1, by omega, by omega, ⟨⟨rfl, rfl⟩, zF, zB, zN, zX⟩⟩)
   | (have z : ¬ 0 ≤ em (decide (k = 1)) x := hno
      rw [decide_eq_false z, cond_false, List.append_nil] at hst
      rw [← hst]
      exact ⟨k + 1, by omega, by omega, ⟨⟨rfl, rfl⟩, zF, zB, zN, zX⟩⟩)
  replace hc := of_decide_eq_false hc
  obtain rfl : k = 2 := by omega
  rw [ui0]
  refine um 8 (lst (c5 p x)) rfl Wk.tok ?_
  refine cr ?_
  refine K14 _ ?_
  refine yR ?_
  refine aa rfl (dv rfl rfl) ?_
  try dsimp only [St.put]
  refine cb rfl (eo rfl rfl zG trivial (by first | rfl | assumption)) ?_
  refine yM rfl rfl ?_
  try dsimp only [St.put]
  refine ae rfl (eg rfl rfl rfl (by decide) (by decide) zR (by decide) ?_)
  try dsimp only [St.put]
  refine ae rfl (ib ([c5 p x]) rfl rfl zG zE rfl rfl zA ?_ zA)
  refine aa rfl (dv rfl rfl) ?_
  try dsimp only [St.put]
  refine ae rfl (jx rfl rfl rfl zG (by constructor) rfl zO ?_)
  refine yN ?_
  dsimp only [St.put]
  refine K9 _ ?_
  refine yR ?_
  refine aa rfl (bp rfl rfl rfl (by omega)) ?_
  refine yM rfl rfl ?_
  refine yN ?_
  dsimp only [St.put]
  have e2 := uk3 (c5 p) hx
  simp only [← e2]
  exact ⟨j + 1, by omega, by omega, ⟨⟨rfl, rfl⟩, zF, zB, zN, zX⟩⟩
 replace hc := of_decide_eq_false hc
 obtain rfl : j = p.pages.length := by omega
 rw [List.take_length]
 refine xq (nx + 1) (ax p + 2 * p.pages.length) (cells (ij p (ck p) (dg p))) zG zW ?_
 refine cr ?_
 refine K5 _ ?_
 refine yS fun _ K23 => ?_
 refine et [(0, none), (1, none), (2, none), (3, none), (4, none), (5, none), (6, none)] (fun i => [5].contains i) (fun i => [3, 5].contains i) (fun i => [1, 4, 6].contains i) [nx + 1] (by kernel_rfl) (by kernel_rfl) ?_
 try dsimp only [St.put]
 refine ar rfl rfl rfl rfl (gl rfl rfl zG (by simp) (by rfl)) ?_
 refine af rfl rfl rfl rfl (dv rfl rfl) ?_
 try dsimp only [St.put]
 refine ar rfl rfl rfl rfl (eo rfl rfl zG (by simp) (by first | rfl | assumption)) ?_
 refine g9 ?_
 try dsimp only [St.put]
 refine gu rfl rfl rfl (ba rfl rfl rfl (xx (bf (ax p) (ck p)) (fun z => decide (z < 0)) _ _ fun z _ => uio z) ⟨zD, ?_⟩)
 refine ed rfl rfl rfl rfl (dr rfl rfl) ?_
 try dsimp only [St.put]
 refine fe rfl rfl rfl rfl (cn rfl rfl rfl zG rfl rfl (by rfl) ?_)
 refine ed rfl rfl rfl rfl (fw rfl (by constructor)) ?_
 refine g8 ?_
 dsimp only [St.put]
 refine K23 _ ?_
 refine aq ?_
 refine im rfl (ja rfl zG (by rfl) zC rfl) (du (by constructor)) zN zS ?_ ?_
 ·exact zW
 rw [ulh]; exact zW
theorem uiq (m : Nat) (e : Int) (p : ai) : C.low m (bif decide (e = 0) then val (ij p (ck p) (dg p)) else .agg [.list [] .nil, .list [] .nil, .list [] .nil]) := by
 cases decide (e = 0)
 ·exact .agg (cp ff (cp ff (cp ff dp)))
 exact eh _ _
theorem ucw (n : Nat) (p : ai) (c : C) (e : Int) (h : e = 0 → ey p ∧ c = .elem (k7 p)) : ll n kx Tryz.prog 41 [c, .v (.int .i64 e)] (.tup [bif decide (ec p e = 0) then val (ij p (ck p) (dg p)) else .agg [.list [] .nil, .list [] .nil, .list [] .nil], .v (.int .i64 (ec p e))]) := fun G nx hF hnx => by
 refine lz (G) (nx) Tryz.func41 rfl (.tup (cp (uiq _ _ _) (cp .v dp))) zN (fun hlt => zH) ?_
 simp only [Tryz.ntmps41, List.length_cons, List.length_nil, Nat.reduceAdd, Nat.reduceSub]
 refine bx fun hlt => ?_
 dsimp only at hlt
 refine yS fun _ K1 => ?_
 refine yR ?_
 try dsimp only [St.put]
 refine ae rfl (dd rfl ?_)
 refine yA rfl rfl ?_
 refine yN ?_
 dsimp only [St.put]
 refine K1 _ ?_
 refine yS fun _ K2 => ?_
 refine yS fun _ K3 => ?_
 refine yR ?_
 refine yM rfl rfl ?_
 refine aa rfl (fl rfl rfl rfl) ?_
 refine yN ?_
 dsimp only [St.put]
 refine K3 _ ?_
 refine am rfl (fun hc => ?_) (fun hc => ?_)
 ·have h0 : e ≠ 0 := je hc
  have hE : ec p e = e := rk h0
  refine yS fun _ K4 => ?_
  refine yR ?_
  refine aa rfl (gd rfl rfl) ?_
  refine yM rfl rfl ?_
  try dsimp only [St.put]
  refine ae rfl (cn rfl rfl rfl zG rfl rfl (by rfl) ?_)
  refine yA rfl rfl ?_
  refine yN ?_
  dsimp only [St.put]
  refine K4 _ ?_
  refine aq ?_
  refine im rfl (ja rfl zG (by rfl) zC rfl) (du (by constructor)) zN zS ?_ ?_
  ·rw [hE, decide_eq_false h0]; exact zW
  rw [hE]; exact zW
 have h0 : e = 0 := gq hc
 obtain ⟨hok, rfl⟩ := h h0
 subst h0
 refine aw ?_
 refine K2 _ ?_
 refine yS fun _ K5 => ?_
 refine yR ?_
 refine yM rfl rfl ?_
 try dsimp only [St.put]
 refine ae rfl (iw rfl rfl rfl (ujz n p hok) zG (by dsimp only [St.put]; omega) ?_)
 refine yM rfl rfl ?_
 refine yX rfl rfl rfl rfl ?_
 refine yX rfl rfl rfl rfl ?_
 try dsimp only [St.put]
 refine ae rfl (dd rfl ?_)
 try dsimp only [St.put]
 refine ae rfl (cn rfl rfl rfl zG rfl rfl (by rfl) ?_)
 refine yA rfl rfl ?_
 refine yN ?_
 dsimp only [St.put]
 refine K5 _ ?_
 refine yS fun _ K6 => ?_
 refine yS fun _ K7 => ?_
 refine yR ?_
 refine yM rfl rfl ?_
 refine aa rfl (dr rfl rfl) ?_
 refine yN ?_
 dsimp only [St.put]
 refine K7 _ ?_
 refine am rfl (fun hc => ?_) (fun hc => ?_)
 ·have hTB : gw p = false := by simpa using hc
  have hE : ec p 0 = 8 := by rw [mx, hTB]; rfl
  refine yS fun _ K8 => ?_
  refine yR ?_
  refine aa rfl (gd rfl rfl) ?_
  try dsimp only [St.put]
  refine ae rfl (cn rfl rfl rfl zG rfl rfl (by rfl) ?_)
  refine yA rfl rfl ?_
  refine yN ?_
  dsimp only [St.put]
  refine K8 _ ?_
  refine aq ?_
  refine im rfl (ja rfl zG (by rfl) zC rfl) (du (by constructor)) zN zS ?_ ?_
  ·rw [hE]; exact zW
  rw [hE]; exact zW
 have hTB : gw p = true := by simpa using hc
 have hE : ec p 0 = 0 := by rw [mx, hTB]; rfl
 refine aw ?_
 refine K6 _ ?_
 refine yS fun _ K9 => ?_
 refine yR ?_
 try dsimp only [St.put]
 refine cb rfl (gl rfl rfl zG trivial (by rfl)) ?_
 try dsimp only [St.put]
 refine ae rfl (cn rfl rfl rfl zG rfl rfl (by rfl) ?_)
 refine yA rfl rfl ?_
 refine yN ?_
 dsimp only [St.put]
 refine K9 _ ?_
 refine aq ?_
 refine im rfl (ja rfl zG (by rfl) zC rfl) (du (by constructor)) zN zS ?_ ?_
 ·rw [hE]; exact zW
 rw [hE]; exact zW
end Go.Proofs.YtbbdginipiljdaaGreatDoor
namespace Go.AB
open Go Go.RowKit
open Go.AB.Enc (cells)
open Go.PB (az aj PlaceD bj bl bk bw av ai c6 cv dj di)
/-- what may remain ahead of a page, by the worst truth -/
noncomputable def rmR (p : ai) (i : Nat) : Nat → Int := ((bu p).room (ck p) (dg p) i).1
noncomputable def rmC (p : ai) (i : Nat) : Nat → Int := ((bu p).room (ck p) (dg p) i).2
theorem uim (p : ai) (i : Nat) : rmR p (i + 1) = (bu p).lessR (rmR p i) i (iz p i) := rfl
theorem uin (p : ai) (i : Nat) : rmC p (i + 1) = ep (rmC p i) i := rfl
theorem x4 {p : ai} (h : ey p) (ht : gw p = true) {i : Nat} (hi : i < p.pages.length) : (bu p).Pick (rmR p i) (rmC p i) i ((bu p).pick (rmR p i) (rmC p i) i) :=
 Net.worst_pick (zh h) (ubf ht) (fun j _ => uap h j) hi
theorem x5 (p : ai) (i : Nat) : iz p i = (bu p).pick (rmR p i) (rmC p i) i := rfl
theorem yu {p : ai} (h : ey p) (ht : gw p = true) : ∀ {i : Nat}, i ≤ p.pages.length → Bd p (rmR p i) (rmC p i)
 | 0, _ => qm h
 | i + 1, hi => by
  have hp := x4 h ht (i := i) (by omega)
  rw [uim, uin, x5]
  exact ul (yu h ht (by omega)) hp.nn hp.le
theorem uil {p : ai} (h : ey p) (ht : gw p = true) {i : Nat} (hi : i < p.pages.length) : (bu p).most (rmR p (i + 1)) (rmC p (i + 1)) = (bu p).most (rmR p i) (rmC p i) - iz p i := by
 have hR := ubf ht
 have hC : ∀ j, j < (bu p).np → 0 ≤ dg p j := fun j _ => uap h j
 have h1 := (Net.room_ok (zh h) hR hC (i + 1) (by show i + 1 ≤ p.pages.length; omega)).all
 have h2 := (Net.room_ok (zh h) hR hC i (by show i ≤ p.pages.length; omega)).all
 simp only [sm] at h1
 show (bu p).most ((bu p).room (ck p) (dg p) (i + 1)).1 ((bu p).room (ck p) (dg p) (i + 1)).2 = (bu p).most ((bu p).room (ck p) (dg p) i).1 ((bu p).room (ck p) (dg p) i).2 - (bu p).worst (ck p) (dg p) i
 omega
theorem uf1 {p : ai} {R C : Nat → Int} (hB : Bd p R C) (j : Nat) : (bu p).alone R C j ≤ 1000000 := Int.le_trans (Net.le_alone.1 (Int.le_refl _)).1 (hB.c j).2
end Go.AB
namespace Go.Proofs.YtbbdginipiljdaaGreatDoor
set_option maxRecDepth 10000
open Go.RowKit Go.AB
open Go.AB.Enc (cells)
open Go.PB (az aj PlaceD bj bl bk bw av ai c6 cv dj di)
set_option maxHeartbeats 1000000 in
theorem ui9 (p : ai) : Pure Tryz.prog 16 [val p] (.tup [lst (kp p), .v (.int .i64 (ec p (c7 p)))]) := by
 refine cw Tryz.func16 rfl (fun m => .tup (cp (cc _ _) (cp .v dp))) fun G nx => ?_
 simp only [Tryz.ntmps16, List.length_cons, List.length_nil, Nat.reduceAdd, Nat.reduceSub]
 refine bx fun hlt => ?_
 dsimp only at hlt
 refine yS fun _ K1 => ?_
 refine yR ?_
 try dsimp only [St.put]
 refine yB rfl rfl rfl ?_
 refine yA rfl rfl ?_
 refine yA rfl rfl ?_
 refine yN ?_
 dsimp only [St.put]
 refine K1 _ ?_
 refine yS fun _ K2 => ?_
 refine yS fun _ K3 => ?_
 refine yR ?_
 refine yE rfl rfl rfl ?_
 try dsimp only [St.put]
 refine ae rfl (ba rfl rfl rfl (vr p) ?_)
 refine yA rfl rfl ?_
 refine yN ?_
 dsimp only [St.put]
 refine K3 _ ?_
 refine yS fun _ K4 => ?_
 refine yR ?_
 refine yM rfl rfl ?_
 refine aa rfl (fl rfl rfl rfl) ?_
 refine yN ?_
 dsimp only [St.put]
 refine K4 _ ?_
 refine am rfl (fun hc => ?_) (fun hc => ?_)
 ·have h0 : c7 p ≠ 0 := je hc
  have hE : ec p (c7 p) = c7 p := rk h0
  have hV : kp p = [] := by unfold kp; rw [hE, kj h0]
  refine yS fun _ K5 => ?_
  refine yR ?_
  refine yM rfl rfl ?_
  refine yA rfl rfl ?_
  refine yA rfl rfl ?_
  refine yN ?_
  dsimp only [St.put]
  refine K5 _ ?_
  refine aq ?_
  refine im rfl (du (by constructor)) (du (by constructor)) zN zS ?_ ?_
  ·rw [hV]; exact zW
  rw [hE]; exact zW
 have h0 : c7 p = 0 := gq hc
 obtain ⟨hok, _⟩ := m7 h0
 have hnp := hok.np
 refine aw ?_
 refine K2 _ ?_
 refine yS fun _ K6 => ?_
 refine yR ?_
 refine yE rfl rfl rfl ?_
 try dsimp only [St.put]
 refine ae rfl (ba rfl rfl rfl (vo p hok) ?_)
 refine yM rfl rfl ?_
 refine yX rfl rfl rfl rfl ?_
 refine yX rfl rfl rfl rfl ?_
 try dsimp only [St.put]
 refine ae rfl (dd rfl ?_)
 try dsimp only [St.put]
 refine ae rfl (cn rfl rfl rfl zG rfl rfl (by rfl) ?_)
 refine yA rfl rfl ?_
 refine yN ?_
 dsimp only [St.put]
 refine K6 _ ?_
 refine yS fun _ K7 => ?_
 refine yS fun _ K8 => ?_
 refine yR ?_
 refine yM rfl rfl ?_
 refine aa rfl (dr rfl rfl) ?_
 refine yN ?_
 dsimp only [St.put]
 refine K8 _ ?_
 refine am rfl (fun hc => ?_) (fun hc => ?_)
 ·have hTB : gw p = false := by simpa using hc
  have hE : ec p (c7 p) = 8 := by rw [h0, mx, hTB]; rfl
  have hV : kp p = [] := by unfold kp; rw [hE, kj (by decide)]
  refine yS fun _ K9 => ?_
  refine yR ?_
  refine yA rfl rfl ?_
  refine yA rfl rfl ?_
  refine yN ?_
  dsimp only [St.put]
  refine K9 _ ?_
  refine aq ?_
  refine im rfl (du (by constructor)) (du (by constructor)) zN zS ?_ ?_
  ·rw [hV]; exact zW
  rw [hE]; exact zW
 have hTB : gw p = true := by simpa using hc
 have hE : ec p (c7 p) = 0 := by rw [h0, mx, hTB]; rfl
 have hV : kp p = bf p.pages.length (iz p) := by unfold kp; rw [hE, n7]
 rw [ta hTB]
 refine aw ?_
 refine K7 _ ?_
 refine yS fun _ K10 => ?_
 refine yR ?_
 refine yE rfl rfl rfl ?_
 try dsimp only [St.put]
 refine cb rfl (gl rfl rfl zG trivial (by rfl)) ?_
 try dsimp only [St.put]
 refine ae rfl (ba rfl rfl rfl (vp p (ck p) (dg p) hok (qm hok)) ?_)
 refine yA rfl rfl ?_
 refine yN ?_
 dsimp only [St.put]
 refine K10 _ ?_
 refine yS fun _ K11 => ?_
 refine yR ?_
 refine yA rfl rfl ?_
 refine yN ?_
 dsimp only [St.put]
 refine K11 _ ?_
 refine lk 8 3 1 rfl (by decide) ?_
 dsimp only [List.set_cons_zero, List.set_cons_succ]
 refine yS fun _ K12 => ?_
 refine yS fun _ K13 => ?_
 refine yR ?_
 refine yA rfl rfl ?_
 refine yN ?_
 dsimp only [St.put]
 refine K13 _ ?_
 refine ay ?_
 refine ci 11 ?_
 refine zQ ?_
 refine c4 ((ah (ah G nx (.box (0 + 1) [lst (bf (ax p) (rmR p 0)), lst (bf p.pages.length (rmC p 0))])) (nx + 1) (.tip (bf 0 (iz p)).length 3 1))) zX ?_
 dsimp only
 refine cz (X := Nat) (fun i => i ≤ p.pages.length) (fun i => p.pages.length - i) (fun i => [(7, .v (.int .i64 ((bu p).most (rmR p i) (rmC p i)))), (8, .list ((bf i (iz p)).map cells) (.tip (nx + 1))), (9, .v (.int .i64 (i : Int))), (10, .any)]) (fun i G' => (ah (ah G nx (.box (i + 1) [lst (bf (ax p) (rmR p i)), lst (bf p.pages.length (rmC p i))])) (nx + 1) (.tip (bf i (iz p)).length 3 1))) 0 rfl ?_ ?_ ?_ ?_ ?_ ?_
 ·exact Nat.zero_le _
 ·exact zF
 ·exact zX
 ·rintro i hI
  exact zL
 ·rintro i hI
  exact zH
 rintro i hI
 dsimp only at hI ⊢
 refine yS fun _ K14 => ?_
 refine yS fun _ K15 => ?_
 refine yR ?_
 refine yM rfl rfl ?_
 refine yF rfl rfl rfl rfl ?_
 refine yL rfl rfl rfl ?_
 refine aa rfl (bg rfl rfl (List.length_map _)) ?_
 refine aa rfl (cg rfl rfl rfl) ?_
 refine yN ?_
 dsimp only [St.put]
 refine K15 _ ?_
 refine am rfl (fun hc => ?_) (fun hc => ?_)
 ·replace hc := of_decide_eq_true hc
  have hi : i < p.pages.length := by omega
  obtain ⟨x, hx⟩ : ∃ x, p.pages[i]? = some x := da hi
  have hB := yu hok hTB (Nat.le_of_lt hi)
  have hP := x4 hok hTB hi
  have hab := uf1 hB i
  have hmb := wl hB
  have hln := gk i (iz p)
  have hPn := hP.nn
  refine aw ?_
  refine K14 _ ?_
  refine yS fun _ K16 => ?_
  refine ay ?_
  refine yS fun _ K17 => ?_
  refine yR ?_
  refine yE rfl rfl rfl ?_
  try dsimp only [St.put]
  refine cb rfl (gl rfl rfl zG trivial (by rfl)) ?_
  refine yM rfl rfl ?_
  try dsimp only [St.put]
  refine ae rfl (ba rfl rfl rfl (uci p (rmR p i) (rmC p i) i x hok hx) ?_)
  refine yA rfl rfl ?_
  refine yN ?_
  dsimp only [St.put]
  refine K17 _ ?_
  refine yS fun _ K18 => ?_
  refine ay ?_
  refine ci 11 ?_
  refine zQ ?_
  refine cz (X := Int) (fun n => FromTop p (rmR p i) (rmC p i) i n) (fun n => n.toNat) (fun n => [(10, .v (.int .i64 n))]) (fun n G' => G') ((bu p).alone (rmR p i) (rmC p i) i) rfl ?_ ?_ (fun _ _ h => h) ?_ ?_ ?_
  ·exact FromTop.start hP
  ·exact zF
  ·rintro n hI
   exact zL
  ·exact fun _ _ _ _ h => .inl h
  rintro n hF
  dsimp only at hF ⊢
  have hF1 := hF.1
  have hF2 := hF.2.1
  have hBl := ul hB (by omega) hF.2.1
  have hmb2 := wl hBl
  refine yS fun _ K19 => ?_
  refine yS fun _ K20 => ?_
  refine et [(0, none), (1, none), (2, none), (3, none), (4, none), (5, none), (9, none), (6, none), (7, none), (8, none), (10, none)] (fun i => [7].contains i) (fun i => [6, 7].contains i) (fun i => [0, 4, 5, 8, 9, 10].contains i) [nx] (by kernel_rfl) (by kernel_rfl) ?_
  refine xM rfl rfl rfl rfl rfl ?_
  try dsimp only [St.put]
  refine ar rfl rfl rfl rfl (dw rfl rfl (Enc.len _)) ?_
  try dsimp only [St.put]
  refine ar rfl rfl rfl rfl (dw rfl rfl (Enc.len _)) ?_
  try dsimp only [St.put]
  refine ar rfl rfl rfl rfl (gl rfl rfl zG (by simp) (by rfl)) ?_
  refine xM rfl rfl rfl rfl rfl ?_
  refine xM rfl rfl rfl rfl rfl ?_
  refine xM rfl rfl rfl rfl rfl ?_
  refine g9 ?_
  try dsimp only [St.put]
  refine gu rfl rfl rfl (ba rfl rfl rfl (uce p (rmR p i) (rmC p i) i x n hok hx (by have := hF.1; have := hF.2.1; omega) hB.r) ⟨zD, ?_⟩)
  try dsimp only [St.put]
  refine fe rfl rfl rfl rfl (ba rfl rfl rfl (vp p _ _ hok (ul hB (by have := hF.1; omega) hF.2.1)) ?_)
  refine ed rfl rfl rfl rfl (bp rfl rfl rfl (by omega)) ?_
  refine ed rfl rfl rfl rfl (cg rfl rfl rfl) ?_
  refine g8 ?_
  dsimp only [St.put]
  refine K20 _ ?_
  refine am rfl (fun hc => ?_) (fun hc => ?_)
  ·replace hc := of_decide_eq_true hc
   have hnot : ¬ (bu p).most (rmR p i) (rmC p i) ≤ n + (bu p).most ((bu p).lessR (rmR p i) i n) (ep (rmC p i) i) := by omega
   refine aw ?_
   refine K19 _ ?_
   refine ay ?_
   refine yR ?_
   refine yM rfl rfl ?_
   refine aa rfl (f9 rfl rfl rfl (by omega)) ?_
   refine yA rfl rfl ?_
   refine yN ?_
   dsimp only [St.put]
   have hd := FromTop.down hP hF hnot
   have hd1 := hd.1
   exact ⟨n - 1, by omega, hd, ⟨⟨rfl, rfl⟩, zF, zB, zN, zX⟩⟩
  replace hc := of_decide_eq_false hc
  have hnw := FromTop.stop hP hF (by omega)
  rw [← x5] at hnw
  subst hnw
  refine cr ?_
  refine K18 _ ?_
  refine yS fun _ K21 => ?_
  refine yR ?_
  refine yM rfl rfl ?_
  refine yM rfl rfl ?_
  try dsimp only [St.put]
  refine ae rfl (eg rfl rfl rfl (by decide) (by decide) zR (by decide) ?_)
  try dsimp only [St.put]
  refine ae rfl (ib ([iz p i]) rfl rfl zG zE rfl rfl zA ?_ zA)
  refine yA rfl rfl ?_
  refine yN ?_
  dsimp only [St.put]
  refine K21 _ ?_
  refine yS fun _ K22 => ?_
  refine yR ?_
  refine yE rfl rfl rfl ?_
  try dsimp only [St.put]
  refine cb rfl (gl rfl rfl zG trivial (by rfl)) ?_
  refine yM rfl rfl ?_
  refine yM rfl rfl ?_
  try dsimp only [St.put]
  refine ae rfl (ba rfl rfl rfl (uce p (rmR p i) (rmC p i) i x (iz p i) hok hx (by have := hF.1; have := hF.2.1; omega) hB.r) ?_)
  try dsimp only [St.put]
  refine ae rfl (cn rfl rfl rfl zG rfl rfl (by rfl) ?_)
  refine yN ?_
  dsimp only [St.put]
  refine K22 _ ?_
  refine yR ?_
  refine yM rfl rfl ?_
  refine yM rfl rfl ?_
  refine aa rfl (f9 rfl rfl rfl (by omega)) ?_
  refine yA rfl rfl ?_
  refine yN ?_
  dsimp only [St.put]
  refine K16 _ ?_
  refine yR ?_
  refine yM rfl rfl ?_
  refine aa rfl (bp rfl rfl rfl (by omega)) ?_
  refine yA rfl rfl ?_
  refine yN ?_
  dsimp only [St.put]
  have e := qt i (iz p)
  rw [← e, ← uil hok hTB hi]
  exact ⟨i + 1, by omega, by omega, ⟨⟨rfl, rfl⟩, zF, zB, zN, zX⟩⟩
 replace hc := of_decide_eq_false hc
 obtain rfl : i = p.pages.length := by omega
 refine cr ?_
 refine K12 _ ?_
 refine yS fun _ K23 => ?_
 refine yR ?_
 refine yM rfl rfl ?_
 refine yA rfl rfl ?_
 refine yA rfl rfl ?_
 refine yN ?_
 dsimp only [St.put]
 refine K23 _ ?_
 refine aq ?_
 refine im rfl (du (by constructor)) (du (by constructor)) zN zS ?_ ?_
 ·rw [hV]; exact zW
 rw [hE]; exact zW
end Go.Proofs.YtbbdginipiljdaaGreatDoor
namespace Go.AB
open Go Go.RowKit
open Go.AB.Enc (cells)
open Go.PB (az aj PlaceD bj bl bk bw av ai c6 cv dj di)
theorem wx {p : ai} {e : Int} (h : ec p e = 0) : e = 0 ∧ gw p = true := by
 by_cases h0 : e = 0
 ·subst h0
  rw [mx] at h
  cases ht : gw p
  ·rw [ht] at h; cases h
  exact ⟨rfl, rfl⟩
 rw [rk h0] at h; exact absurd h h0
end Go.AB
namespace Go.Proofs.YtbbdginipiljdaaGreatDoor
set_option maxRecDepth 10000
open Go Go.RowKit Go.AB
open Go.AB.Enc (cells)
open Go.PB (az aj PlaceD bj bl bk bw av ai c6 cv dj di)
theorem ufw {p : ai} {n : Int} (h : gi p n = 0) : ey p ∧ pgC p n = .elem (k7 p) := ⟨(m7 (xr h).1).1, ujl h⟩
theorem ru {p : ai} (h : c7 p = 0) : ey p ∧ kd p = .elem (k7 p) := ⟨(m7 h).1, zc h⟩
theorem vv (n : Nat) (p : ai) (c : C) (e : Int) (h : e = 0 → ey p ∧ c = .elem (k7 p)) (hE : ec p e = 0) : ll n kx Tryz.prog 41 [c, .v (.int .i64 e)] (.tup [val (ij p (ck p) (dg p)), .v (.int .i64 0)]) := by
 have := ucw n p c e h
 rwa [hE, decide_eq_true rfl, cond_true] at this
theorem vw (n : Nat) (p : ai) (c : C) (e : Int) (h : e = 0 → ey p ∧ c = .elem (k7 p)) (hE : ec p e ≠ 0) : ll n kx Tryz.prog 41 [c, .v (.int .i64 e)] (.tup [.agg [.list [] .nil, .list [] .nil, .list [] .nil], .v (.int .i64 (ec p e))]) := by
 have := ucw n p c e h
 rwa [decide_eq_false hE, cond_false] at this
theorem uj0 (n : Nat) (p : ai) (m : Int) : ll n kx Tryz.prog 11 [val p, .v (.int .i64 m)] (.tup [val (ky p m), .v (.int .i64 (ec p (gi p m)))]) := fun G nx hF hnx => by
 refine lz (G) (nx) Tryz.func11 rfl (.tup (cp (eh _ _) (cp .v dp))) zN (fun hlt => zH) ?_
 simp only [Tryz.ntmps11, List.length_cons, List.length_nil, Nat.reduceAdd, Nat.reduceSub]
 refine bx fun hlt => ?_
 dsimp only at hlt
 refine yS fun _ K1 => ?_
 refine yR ?_
 try dsimp only [St.put]
 refine yB rfl rfl rfl ?_
 try dsimp only [St.put]
 refine ae rfl (dd rfl ?_)
 refine yA rfl rfl ?_
 refine yN ?_
 dsimp only [St.put]
 refine K1 _ ?_
 refine yS fun _ K2 => ?_
 by_cases hL : ec p (gi p m) = 0
 ·refine yR ?_
  refine yE rfl rfl rfl ?_
  refine yM rfl rfl ?_
  try dsimp only [St.put]
  refine ae rfl (iw rfl rfl rfl (ucy n p m) zG (by dsimp only [St.put]; omega) ?_)
  refine yX rfl rfl rfl rfl ?_
  refine yX rfl rfl rfl rfl ?_
  try dsimp only [St.put]
  refine ae rfl (iw rfl rfl rfl (vv n p (pgC p m) (gi p m) ufw hL) zG (by dsimp only [St.put]; omega) ?_)
  refine yM rfl rfl ?_
  refine yX rfl rfl rfl rfl ?_
  refine yX rfl rfl rfl rfl ?_
  try dsimp only [St.put]
  refine ae rfl (dd rfl ?_)
  try dsimp only [St.put]
  refine ae rfl (cn rfl rfl rfl zG rfl rfl (by rfl) ?_)
  refine yA rfl rfl ?_
  refine yN ?_
  dsimp only [St.put]
  refine K2 _ ?_
  refine yS fun _ K3 => ?_
  refine yS fun _ K4 => ?_
  refine yR ?_
  refine yM rfl rfl ?_
  refine aa rfl (fl rfl rfl rfl) ?_
  refine yN ?_
  dsimp only [St.put]
  refine K4 _ ?_
  refine am rfl (fun hc => ?_) (fun hc => ?_)
  ·exact absurd hc (by decide)
  obtain ⟨h0, hTB⟩ := wx hL
  obtain ⟨hc0, j, x, rfl, hx, hpo⟩ := xr h0
  obtain ⟨hok, _⟩ := m7 hc0
  have hV : ky p (j : Int) = ⟨0, (bu p).alone (ck p) (dg p) j⟩ := by unfold ky; rw [hL, n7, Int.toNat_natCast]
  refine aw ?_
  refine K3 _ ?_
  refine yS fun _ K5 => ?_
  refine yR ?_
  try dsimp only [St.put]
  refine cb rfl (gl rfl rfl zG trivial (by rfl)) ?_
  refine yM rfl rfl ?_
  try dsimp only [St.put]
  refine ae rfl (ba rfl rfl rfl (ucz p (ck p) (dg p) j x hok hx) ?_)
  refine aa rfl (gd rfl rfl) ?_
  try dsimp only [St.put]
  refine ae rfl (cn rfl rfl rfl zG rfl rfl (by rfl) ?_)
  refine yA rfl rfl ?_
  refine yN ?_
  dsimp only [St.put]
  refine K5 _ ?_
  refine aq ?_
  refine im rfl (ja rfl zG (by rfl) zC rfl) (du (by constructor)) zN zS ?_ ?_
  ·rw [hV]; exact zW
  rw [hL]; exact zW
 refine yR ?_
 refine yE rfl rfl rfl ?_
 refine yM rfl rfl ?_
 try dsimp only [St.put]
 refine ae rfl (iw rfl rfl rfl (ucy n p m) zG (by dsimp only [St.put]; omega) ?_)
 refine yX rfl rfl rfl rfl ?_
 refine yX rfl rfl rfl rfl ?_
 try dsimp only [St.put]
 refine ae rfl (iw rfl rfl rfl (vw n p (pgC p m) (gi p m) ufw hL) zG (by dsimp only [St.put]; omega) ?_)
 refine yM rfl rfl ?_
 refine yX rfl rfl rfl rfl ?_
 refine yX rfl rfl rfl rfl ?_
 try dsimp only [St.put]
 refine ae rfl (dd rfl ?_)
 try dsimp only [St.put]
 refine ae rfl (cn rfl rfl rfl zG rfl rfl (by rfl) ?_)
 refine yA rfl rfl ?_
 refine yN ?_
 dsimp only [St.put]
 refine K2 _ ?_
 refine yS fun _ K6 => ?_
 refine yS fun _ K7 => ?_
 refine yR ?_
 refine yM rfl rfl ?_
 refine aa rfl (fl rfl rfl rfl) ?_
 refine yN ?_
 dsimp only [St.put]
 refine K7 _ ?_
 refine am rfl (fun hc => ?_) (fun hc => ?_)
 ·have hV : ky p m = ⟨0, 0⟩ := by unfold ky; rw [kj hL]
  refine yS fun _ K8 => ?_
  refine yR ?_
  refine aa rfl (gd rfl rfl) ?_
  refine yM rfl rfl ?_
  try dsimp only [St.put]
  refine ae rfl (cn rfl rfl rfl zG rfl rfl (by rfl) ?_)
  refine yA rfl rfl ?_
  refine yN ?_
  dsimp only [St.put]
  refine K8 _ ?_
  refine aq ?_
  refine im rfl (ja rfl zG (by rfl) zC rfl) (du (by constructor)) zN zS ?_ ?_
  ·rw [hV]; exact zW
  exact zW
 exact absurd (gq hc) hL
theorem ujw (n : Nat) (p : ai) : ll n kx Tryz.prog 13 [val p] (.tup [val (ku p), .v (.int .i64 (ec p (c7 p)))]) := fun G nx hF hnx => by
 refine lz (G) (nx) Tryz.func13 rfl (.tup (cp (eh _ _) (cp .v dp))) zN (fun hlt => zH) ?_
 simp only [Tryz.ntmps13, List.length_cons, List.length_nil, Nat.reduceAdd, Nat.reduceSub]
 refine bx fun hlt => ?_
 dsimp only at hlt
 refine yS fun _ K1 => ?_
 refine yR ?_
 try dsimp only [St.put]
 refine yB rfl rfl rfl ?_
 try dsimp only [St.put]
 refine ae rfl (dd rfl ?_)
 refine yA rfl rfl ?_
 refine yN ?_
 dsimp only [St.put]
 refine K1 _ ?_
 refine yS fun _ K2 => ?_
 by_cases hL : ec p (c7 p) = 0
 ·refine yR ?_
  refine yE rfl rfl rfl ?_
  try dsimp only [St.put]
  refine ae rfl (iw rfl rfl rfl (qc n p) zG (by dsimp only [St.put]; omega) ?_)
  refine yX rfl rfl rfl rfl ?_
  refine yX rfl rfl rfl rfl ?_
  try dsimp only [St.put]
  refine ae rfl (iw rfl rfl rfl (vv n p (kd p) (c7 p) ru hL) zG (by dsimp only [St.put]; omega) ?_)
  refine yM rfl rfl ?_
  refine yX rfl rfl rfl rfl ?_
  refine yX rfl rfl rfl rfl ?_
  try dsimp only [St.put]
  refine ae rfl (dd rfl ?_)
  try dsimp only [St.put]
  refine ae rfl (cn rfl rfl rfl zG rfl rfl (by rfl) ?_)
  refine yA rfl rfl ?_
  refine yN ?_
  dsimp only [St.put]
  refine K2 _ ?_
  refine yS fun _ K3 => ?_
  refine yS fun _ K4 => ?_
  refine yR ?_
  refine yM rfl rfl ?_
  refine aa rfl (fl rfl rfl rfl) ?_
  refine yN ?_
  dsimp only [St.put]
  refine K4 _ ?_
  refine am rfl (fun hc => ?_) (fun hc => ?_)
  ·exact absurd hc (by decide)
  obtain ⟨h0, hTB⟩ := wx hL
  obtain ⟨hok, _⟩ := m7 h0
  have hV : ku p = ⟨0, (bu p).most (ck p) (dg p)⟩ := by unfold ku; rw [hL, n7]; rfl
  refine aw ?_
  refine K3 _ ?_
  refine yS fun _ K5 => ?_
  refine yR ?_
  try dsimp only [St.put]
  refine cb rfl (gl rfl rfl zG trivial (by rfl)) ?_
  try dsimp only [St.put]
  refine ae rfl (ba rfl rfl rfl (vx p (ck p) (dg p) hok (qm hok)) ?_)
  refine aa rfl (gd rfl rfl) ?_
  try dsimp only [St.put]
  refine ae rfl (cn rfl rfl rfl zG rfl rfl (by rfl) ?_)
  refine yA rfl rfl ?_
  refine yN ?_
  dsimp only [St.put]
  refine K5 _ ?_
  refine aq ?_
  refine im rfl (ja rfl zG (by rfl) zC rfl) (du (by constructor)) zN zS ?_ ?_
  ·rw [hV]; exact zW
  rw [hL]; exact zW
 refine yR ?_
 refine yE rfl rfl rfl ?_
 try dsimp only [St.put]
 refine ae rfl (iw rfl rfl rfl (qc n p) zG (by dsimp only [St.put]; omega) ?_)
 refine yX rfl rfl rfl rfl ?_
 refine yX rfl rfl rfl rfl ?_
 try dsimp only [St.put]
 refine ae rfl (iw rfl rfl rfl (vw n p (kd p) (c7 p) ru hL) zG (by dsimp only [St.put]; omega) ?_)
 refine yM rfl rfl ?_
 refine yX rfl rfl rfl rfl ?_
 refine yX rfl rfl rfl rfl ?_
 try dsimp only [St.put]
 refine ae rfl (dd rfl ?_)
 try dsimp only [St.put]
 refine ae rfl (cn rfl rfl rfl zG rfl rfl (by rfl) ?_)
 refine yA rfl rfl ?_
 refine yN ?_
 dsimp only [St.put]
 refine K2 _ ?_
 refine yS fun _ K6 => ?_
 refine yS fun _ K7 => ?_
 refine yR ?_
 refine yM rfl rfl ?_
 refine aa rfl (fl rfl rfl rfl) ?_
 refine yN ?_
 dsimp only [St.put]
 refine K7 _ ?_
 refine am rfl (fun hc => ?_) (fun hc => ?_)
 ·have hV : ku p = ⟨0, 0⟩ := by unfold ku; rw [kj hL]
  refine yS fun _ K8 => ?_
  refine yR ?_
  refine aa rfl (gd rfl rfl) ?_
  refine yM rfl rfl ?_
  try dsimp only [St.put]
  refine ae rfl (cn rfl rfl rfl zG rfl rfl (by rfl) ?_)
  refine yA rfl rfl ?_
  refine yN ?_
  dsimp only [St.put]
  refine K8 _ ?_
  refine aq ?_
  refine im rfl (ja rfl zG (by rfl) zC rfl) (du (by constructor)) zN zS ?_ ?_
  ·rw [hV]; exact zW
  exact zW
 exact absurd (gq hc) hL
set_option maxHeartbeats 1000000 in
theorem ujr (n0 : Nat) (p : ai) : ll n0 kx Tryz.prog 15 [val p] (.tup [lst (kp p), .v (.int .i64 (ec p (c7 p)))]) := fun G nx hF hnx => by
 refine lz (G) (nx) Tryz.func15 rfl (.tup (cp (cc _ _) (cp .v dp))) zN (fun hlt => zH) ?_
 simp only [Tryz.ntmps15, List.length_cons, List.length_nil, Nat.reduceAdd, Nat.reduceSub]
 refine bx fun hlt => ?_
 dsimp only at hlt
 refine yS fun _ K1 => ?_
 refine yR ?_
 try dsimp only [St.put]
 refine yB rfl rfl rfl ?_
 refine yA rfl rfl ?_
 refine yA rfl rfl ?_
 refine yN ?_
 dsimp only [St.put]
 refine K1 _ ?_
 refine yS fun _ K2 => ?_
 by_cases hL : ec p (c7 p) = 0
 ·refine yR ?_
  refine yE rfl rfl rfl ?_
  try dsimp only [St.put]
  refine ae rfl (iw rfl rfl rfl (qc n0 p) zG (by dsimp only [St.put]; omega) ?_)
  refine yX rfl rfl rfl rfl ?_
  refine yX rfl rfl rfl rfl ?_
  try dsimp only [St.put]
  refine ae rfl (iw rfl rfl rfl (vv n0 p (kd p) (c7 p) ru hL) zG (by dsimp only [St.put]; omega) ?_)
  refine yM rfl rfl ?_
  refine yX rfl rfl rfl rfl ?_
  refine yX rfl rfl rfl rfl ?_
  try dsimp only [St.put]
  refine ae rfl (dd rfl ?_)
  try dsimp only [St.put]
  refine ae rfl (cn rfl rfl rfl zG rfl rfl (by rfl) ?_)
  refine yA rfl rfl ?_
  refine yN ?_
  dsimp only [St.put]
  refine K2 _ ?_
  refine yS fun _ K3 => ?_
  refine yS fun _ K4 => ?_
  refine yR ?_
  refine yM rfl rfl ?_
  refine aa rfl (fl rfl rfl rfl) ?_
  refine yN ?_
  dsimp only [St.put]
  refine K4 _ ?_
  refine am rfl (fun hc => ?_) (fun hc => ?_)
  ·exact absurd hc (by decide)
  obtain ⟨h0, hTB⟩ := wx hL
  obtain ⟨hok, _⟩ := m7 h0
  have hnp := hok.np
  have hV : kp p = bf p.pages.length (iz p) := by unfold kp; rw [hL, n7]
  refine aw ?_
  refine K3 _ ?_
  refine yS fun _ K5 => ?_
  refine yR ?_
  refine yA rfl rfl ?_
  refine yN ?_
  dsimp only [St.put]
  refine K5 _ ?_
  refine lk 6 3 1 rfl (by decide) ?_
  dsimp only [List.set_cons_zero, List.set_cons_succ]
  refine yS fun _ K6 => ?_
  refine yS fun _ K7 => ?_
  refine yR ?_
  refine yF rfl rfl rfl rfl ?_
  refine yL rfl rfl rfl ?_
  refine aa rfl (bg rfl rfl (List.length_map _)) ?_
  refine yM rfl rfl ?_
  refine yN ?_
  dsimp only [St.put]
  refine K7 _ ?_
  refine ay ?_
  refine ci 25 ?_
  refine zQ ?_
  refine c4 ((ah (ah G nx (.box (0 + 1) (cells (ij p (rmR p 0) (rmC p 0))))) (nx + 1) (.tip (bf 0 (iz p)).length 3 1))) zX ?_
  dsimp only
  refine cz (X := Nat) (fun i => i ≤ p.pages.length) (fun i => p.pages.length - i) (fun i => [(6, .list ((bf i (iz p)).map cells) (.tip (nx + 1))), (7, .any), (8, .any), (9, .any), (24, .v (.int .i64 (i : Int)))]) (fun i G' => (ah (ah G nx (.box (i + 1) (cells (ij p (rmR p i) (rmC p i))))) (nx + 1) (.tip (bf i (iz p)).length 3 1))) 0 rfl ?_ ?_ ?_ ?_ ?_ ?_
  ·exact Nat.zero_le _
  ·exact zF
  ·exact zX
  ·rintro i hI
   exact zL
  ·rintro i hI
   exact zH
  rintro i hI
  dsimp only at hI ⊢
  refine yS fun _ K8 => ?_
  refine yR ?_
  refine aa rfl (cg rfl rfl rfl) ?_
  refine yN ?_
  dsimp only [St.put]
  refine K8 _ ?_
  refine yS fun _ K9 => ?_
  refine am rfl (fun hc => ?_) (fun hc => ?_)
  ·replace hc := of_decide_eq_true hc
   have hi : i < p.pages.length := by omega
   obtain ⟨x, hx⟩ : ∃ x, p.pages[i]? = some x := da hi
   have hB := yu hok hTB (Nat.le_of_lt hi)
   have hP := x4 hok hTB hi
   have hab := uf1 hB i
   have hmb := wl hB
   have hln := gk i (iz p)
   have hPn := hP.nn
   refine aw ?_
   refine K9 _ ?_
   refine yS fun _ K10 => ?_
   refine ay ?_
   refine yS fun _ K11 => ?_
   refine yR ?_
   refine yM rfl rfl ?_
   refine yA rfl rfl ?_
   refine yN ?_
   dsimp only [St.put]
   refine K11 _ ?_
   refine yS fun _ K12 => ?_
   refine et [(0, none), (2, none), (3, none), (1, none), (4, none), (5, none), (6, none)] (fun i => [4].contains i) (fun i => [1, 4].contains i) (fun i => [3, 5, 6].contains i) [nx] (by kernel_rfl) (by kernel_rfl) ?_
   try dsimp only [St.put]
   refine ar rfl rfl rfl rfl (gl rfl rfl zG (by simp) (by rfl)) ?_
   try dsimp only [St.put]
   refine ar rfl rfl rfl rfl (gl rfl rfl zG (by simp) (by rfl)) ?_
   refine xM rfl rfl rfl rfl rfl ?_
   refine g9 ?_
   try dsimp only [St.put]
   refine gu rfl rfl rfl (ba rfl rfl rfl (vx p _ _ hok hB) ⟨zD, ?_⟩)
   try dsimp only [St.put]
   refine fe rfl rfl rfl rfl (ba rfl rfl rfl (ucz p (rmR p i) (rmC p i) i x hok hx) ?_)
   refine ed rfl rfl rfl rfl (fw rfl (by constructor)) ?_
   refine ed rfl rfl rfl rfl (fw rfl (by constructor)) ?_
   refine g8 ?_
   dsimp only [St.put]
   refine K12 _ ?_
   refine yS fun _ K13 => ?_
   refine ay ?_
   refine ci 25 ?_
   refine zQ ?_
   refine cz (X := Int) (fun n => FromTop p (rmR p i) (rmC p i) i n) (fun n => n.toNat) (fun n => [(9, .v (.int .i64 n))]) (fun n G' => G') ((bu p).alone (rmR p i) (rmC p i) i) rfl ?_ ?_ (fun _ _ h => h) ?_ ?_ ?_
   ·exact FromTop.start hP
   ·exact zF
   ·rintro n hI
    exact zL
   ·exact fun _ _ _ _ h => .inl h
   rintro n hF2
   dsimp only at hF2 ⊢
   have hF1 := hF2.1
   have hF3 := hF2.2.1
   have hBl := ul hB (by omega) hF2.2.1
   have hmb2 := wl hBl
   refine yS fun _ K14 => ?_
   refine yS fun _ K15 => ?_
   refine yR ?_
   refine yM rfl rfl ?_
   try dsimp only [St.put]
   refine cb rfl (gl rfl rfl zG trivial (by rfl)) ?_
   refine yM rfl rfl ?_
   refine yM rfl rfl ?_
   try dsimp only [St.put]
   refine ae rfl (ba rfl rfl rfl (ucv p (rmR p i) (rmC p i) i x n hok hx (by have := hF2.1; have := hF2.2.1; omega) hB.r) ?_)
   try dsimp only [St.put]
   refine ae rfl (ba rfl rfl rfl (vx p _ _ hok (ul hB (by have := hF2.1; omega) hF2.2.1)) ?_)
   refine aa rfl (bp rfl rfl rfl (by omega)) ?_
   refine yM rfl rfl ?_
   refine aa rfl (cg rfl rfl rfl) ?_
   refine yN ?_
   dsimp only [St.put]
   refine K15 _ ?_
   refine am rfl (fun hc => ?_) (fun hc => ?_)
   ·replace hc := of_decide_eq_true hc
    have hnot : ¬ (bu p).most (rmR p i) (rmC p i) ≤ n + (bu p).most ((bu p).lessR (rmR p i) i n) (ep (rmC p i) i) := by omega
    refine aw ?_
    refine K14 _ ?_
    refine ay ?_
    refine yR ?_
    refine yM rfl rfl ?_
    refine aa rfl (f9 rfl rfl rfl (by omega)) ?_
    refine yA rfl rfl ?_
    refine yN ?_
    dsimp only [St.put]
    have hd := FromTop.down hP hF2 hnot
    have hd1 := hd.1
    exact ⟨n - 1, by omega, hd, ⟨⟨rfl, rfl⟩, zF, zB, zN, zX⟩⟩
   replace hc := of_decide_eq_false hc
   have hnw := FromTop.stop hP hF2 (by omega)
   rw [← x5] at hnw
   subst hnw
   refine cr ?_
   refine K13 _ ?_
   refine yS fun _ K16 => ?_
   refine yR ?_
   try dsimp only [St.put]
   refine cb rfl (gl rfl rfl zG trivial (by rfl)) ?_
   refine yM rfl rfl ?_
   refine yM rfl rfl ?_
   try dsimp only [St.put]
   refine ae rfl (ba rfl rfl rfl (ucv p (rmR p i) (rmC p i) i x (iz p i) hok hx (by have := hF2.1; have := hF2.2.1; omega) hB.r) ?_)
   try dsimp only [St.put]
   refine ae rfl (cn rfl rfl rfl zG rfl rfl (by rfl) ?_)
   refine yN ?_
   dsimp only [St.put]
   refine K16 _ ?_
   refine yR ?_
   refine yM rfl rfl ?_
   refine yM rfl rfl ?_
   try dsimp only [St.put]
   refine ae rfl (eg rfl rfl rfl (by decide) (by decide) zR (by decide) ?_)
   try dsimp only [St.put]
   refine ae rfl (ib ([iz p i]) rfl rfl zG zE rfl rfl zA ?_ zA)
   refine yA rfl rfl ?_
   refine yN ?_
   dsimp only [St.put]
   refine K10 _ ?_
   refine yR ?_
   refine aa rfl (bp rfl rfl rfl (by omega)) ?_
   refine yM rfl rfl ?_
   refine yN ?_
   dsimp only [St.put]
   have e := qt i (iz p)
   rw [← e]
   exact ⟨i + 1, by omega, by omega, ⟨⟨rfl, rfl⟩, zF, zB, zN, zX⟩⟩
  replace hc := of_decide_eq_false hc
  obtain rfl : i = p.pages.length := by omega
  refine cr ?_
  refine K6 _ ?_
  refine yS fun _ K17 => ?_
  refine yR ?_
  refine yM rfl rfl ?_
  refine yA rfl rfl ?_
  refine yA rfl rfl ?_
  refine yN ?_
  dsimp only [St.put]
  refine K17 _ ?_
  refine aq ?_
  refine im rfl (du (by constructor)) (du (by constructor)) zN zS ?_ ?_
  ·rw [hV]; exact zW
  rw [hL]; exact zW
 refine yR ?_
 refine yE rfl rfl rfl ?_
 try dsimp only [St.put]
 refine ae rfl (iw rfl rfl rfl (qc n0 p) zG (by dsimp only [St.put]; omega) ?_)
 refine yX rfl rfl rfl rfl ?_
 refine yX rfl rfl rfl rfl ?_
 try dsimp only [St.put]
 refine ae rfl (iw rfl rfl rfl (vw n0 p (kd p) (c7 p) ru hL) zG (by dsimp only [St.put]; omega) ?_)
 refine yM rfl rfl ?_
 refine yX rfl rfl rfl rfl ?_
 refine yX rfl rfl rfl rfl ?_
 try dsimp only [St.put]
 refine ae rfl (dd rfl ?_)
 try dsimp only [St.put]
 refine ae rfl (cn rfl rfl rfl zG rfl rfl (by rfl) ?_)
 refine yA rfl rfl ?_
 refine yN ?_
 dsimp only [St.put]
 refine K2 _ ?_
 refine yS fun _ K18 => ?_
 refine yS fun _ K19 => ?_
 refine yR ?_
 refine yM rfl rfl ?_
 refine aa rfl (fl rfl rfl rfl) ?_
 refine yN ?_
 dsimp only [St.put]
 refine K19 _ ?_
 refine am rfl (fun hc => ?_) (fun hc => ?_)
 ·have hV : kp p = [] := by unfold kp; rw [kj hL]
  refine yS fun _ K20 => ?_
  refine yR ?_
  refine yM rfl rfl ?_
  refine yA rfl rfl ?_
  refine yA rfl rfl ?_
  refine yN ?_
  dsimp only [St.put]
  refine K20 _ ?_
  refine aq ?_
  refine im rfl (du (by constructor)) (du (by constructor)) zN zS ?_ ?_
  ·rw [hV]; exact zW
  exact zW
 exact absurd (gq hc) hL
end Go.Proofs.YtbbdginipiljdaaGreatDoor
namespace Go.Proofs.YtbbdginipiljdaaGreatDoor
set_option maxRecDepth 10000
open Go Go.RowKit Go.AB
open Go.AB.Enc (cells)
open Go.PB (az aj PlaceD bj bl bk bw av ai c6 cv dj di)
set_option maxHeartbeats 1000000 in
theorem uh6 (nF : Nat) (n : Nat) (hb : n ≤ 8) : xw nF kx Tryz.prog 89 [.elem [.v (.int .i64 (n : Int))]] (2 ^ n) (fun s => [.v (.int .i64 (s : Int)), lst (ef n s)]) := by
 refine ud6 Tryz.func89 rfl rfl fun I hN hcl ok hG hn => ?_
 simp only [Tryz.ntmps89, List.length_cons, List.length_nil, Nat.reduceAdd, Nat.reduceSub]
 have h256 : 2 ^ n ≤ 2 ^ 8 := Nat.pow_le_pow_right (by omega) hb
 refine li 2 ?_
 refine zQ ?_
 refine pp ?_
 dsimp only [FC.st]
 refine bx fun hlt => ?_
 dsimp only at hlt
 refine jb ?_
 try dsimp only [St.put]
 first | refine cb rfl (br rfl rfl) ?_ | refine cb rfl (dw rfl rfl (Enc.len _)) ?_ | refine cb rfl (dw rfl rfl rfl) ?_ | refine cb rfl (eo rfl rfl zG trivial (by first | rfl | assumption)) ?_ | refine cb rfl (gl rfl rfl zG trivial (by rfl)) ?_ | refine cb rfl (pz rfl rfl zG trivial (by simp)) ?_ | refine cb rfl (j6 rfl rfl zG trivial (o4 (by assumption) rfl)) ?_ | refine cb rfl (j6 rfl rfl zG trivial (by assumption)) ?_ | refine cb rfl (qy rfl rfl zG trivial rfl (by assumption) rfl (by decide)) ?_ | refine cb rfl (nh rfl rfl zG (by rfl)) ?_
 refine aa rfl (wc (n := n) rfl rfl rfl (by omega)) ?_
 refine aa rfl (gy rfl (by constructor)) ?_
 refine jc ?_
 dsimp only [St.put]
 show ka _ _ _ _ _ _ _
 refine pq ok rfl ⟨rfl, rfl, zK, zN, zS, zK⟩ ?_
 refine ro ?_
 refine li 9 ?_
 refine zQ ?_
 refine uab (X := Nat) (fun s => s ≤ 2 ^ n) (fun s => 2 ^ n - s) (fun s => [(3, .any), (4, .any), (5, .any), (8, .v (.int .i64 (s : Int)))]) (fun s => s) 0 rfl ?_ ?_ ?_ ?_ ?_
 ·exact Nat.zero_le _
 ·exact zF
 ·rfl
 ·rintro s hI
  exact zL
 ·rintro s hI
  dsimp only at hI ⊢
  refine li 9 ?_
  refine zQ ?_
  refine pp ?_
  dsimp only [FC.st]
  refine bx fun hlt => ?_
  dsimp only at hlt
  refine jb ?_
  refine aa rfl (cg rfl rfl rfl) ?_
  refine jc ?_
  dsimp only [St.put]
  show ka _ _ _ _ _ _ _
  refine pq ok rfl ⟨rfl, rfl, zK, zN, zS, zK⟩ ?_
  refine po fun K1 hK1 => ?_
  refine uc rfl (fun hc => ?_) (fun hc => ?_)
  ·replace hc := of_decide_eq_true hc
   have hs : s < 2 ^ n := by omega
   refine ub ?_
   refine hK1 _ _ ?_
   refine po fun K2 hK2 => ?_
   refine ro ?_
   refine li 9 ?_
   refine zQ ?_
   refine pp ?_
   dsimp only [FC.st]
   refine bx fun hlt => ?_
   dsimp only at hlt
   refine jb ?_
   refine aa rfl (gy rfl (by constructor)) ?_
   refine aa rfl (fw rfl (by constructor)) ?_
   refine jc ?_
   dsimp only [St.put]
   show ka _ _ _ _ _ _ _
   refine xa ?_
   refine jb ?_
   refine aa rfl (fw rfl (by constructor)) ?_
   refine jc ?_
   dsimp only [St.put]
   show ka _ _ _ _ _ _ _
   refine xa ?_
   refine lk 4 3 1 rfl (by decide) ?_
   dsimp only [List.set_cons_zero, List.set_cons_succ]
   refine qo fun K3 hK3 => ?_
   refine jb ?_
   try dsimp only [St.put]
   first | refine cb rfl (br rfl rfl) ?_ | refine cb rfl (dw rfl rfl (Enc.len _)) ?_ | refine cb rfl (dw rfl rfl rfl) ?_ | refine cb rfl (eo rfl rfl zG trivial (by first | rfl | assumption)) ?_ | refine cb rfl (gl rfl rfl zG trivial (by rfl)) ?_ | refine cb rfl (pz rfl rfl zG trivial (by simp)) ?_ | refine cb rfl (j6 rfl rfl zG trivial (o4 (by assumption) rfl)) ?_ | refine cb rfl (j6 rfl rfl zG trivial (by assumption)) ?_ | refine cb rfl (qy rfl rfl zG trivial rfl (by assumption) rfl (by decide)) ?_ | refine cb rfl (nh rfl rfl zG (by rfl)) ?_
   refine aa rfl (gy rfl (by constructor)) ?_
   refine jc ?_
   dsimp only [St.put]
   refine hK3 _ ?_
   refine ay ?_
   refine ci 13 ?_
   refine zQ ?_
   refine c4 ((ah (I.G s) I.nx (.tip (ef 0 s).length 3 1))) zX ?_
   dsimp only
   refine cz (X := Nat) (fun k => k ≤ n) (fun k => n - k) (fun k => [(4, .list ((ef k s).map cells) (.tip I.nx)), (5, .any), (12, .v (.int .i64 (k : Int)))]) (fun k G' => (ah (I.G s) I.nx (.tip (ef k s).length 3 1))) 0 rfl ?_ ?_ ?_ ?_ ?_ ?_
   ·exact Nat.zero_le _
   ·exact zF
   ·exact zX
   ·rintro k hI
    exact zL
   ·rintro k hI
    exact zH
   ·rintro k hK
    dsimp only at hK ⊢
    refine qo fun K4 hK4 => ?_
    refine jb ?_
    refine aa rfl (cg rfl rfl rfl) ?_
    refine jc ?_
    dsimp only [St.put]
    refine hK4 _ ?_
    refine qo fun K5 hK5 => ?_
    refine am rfl (fun hc => ?_) (fun hc => ?_)
    ·replace hc := of_decide_eq_true hc
     have hml := rh k s
     refine aw ?_
     refine hK5 _ ?_
     refine qo fun K6 hK6 => ?_
     refine ay ?_
     refine qo fun K7 hK7 => ?_
     refine jb ?_
     refine aa rfl (gy rfl (by constructor)) ?_
     refine aa rfl (fw rfl (by constructor)) ?_
     refine jc ?_
     dsimp only [St.put]
     refine hK7 _ ?_
     refine qo fun K8 hK8 => ?_
     refine jb ?_
     refine aa rfl (gy rfl (by constructor)) ?_
     refine aa rfl (gy rfl (by constructor)) ?_
     refine aa rfl (re (m := s) (n := k) rfl rfl rfl (by show k ≤ 64; omega) (by show (s : Int) ≤ 9223372036854775807; omega) (by decide)) ?_
     refine aa rfl (rg (m := s / 2 ^ k) rfl rfl rfl (Nat.lt_of_le_of_lt (Nat.div_le_self _ _) (by show s < 2 ^ 64; omega)) (by decide)) ?_
     refine aa rfl (j8 rfl rfl rfl) ?_
     refine jc ?_
     dsimp only [St.put]
     refine hK8 _ ?_
     refine am rfl (fun hc => ?_) (fun hc => ?_)
     ·have hb1 : s.testBit k = true := bit_eq.1 (of_decide_eq_true hc)
      refine jb ?_
      refine aa rfl (gy rfl (by constructor)) ?_
      refine aa rfl (gy rfl (by constructor)) ?_
      try dsimp only [St.put]
      refine ae rfl (eg rfl rfl rfl (by decide) (by decide) zR (by decide) ?_)
      try dsimp only [St.put]
      refine ae rfl (ib ([(k : Int)]) rfl rfl zG zE rfl rfl zA ?_ zA)
      refine aa rfl (fw rfl (by constructor)) ?_
      refine jc ?_
      dsimp only [St.put]
      refine hK6 _ ?_
      refine jb ?_
      first | refine aa rfl (bp rfl rfl rfl (by omega)) ?_ | refine aa rfl (tp rfl rfl rfl) ?_
      refine aa rfl (gy rfl (by constructor)) ?_
      refine jc ?_
      dsimp only [St.put]
      have e := wr k s
      first
      | (have q : s.testBit k = true := hb1
         rw [q, cond_true] at e
         rw [← e]
         exact ⟨k + 1, by omega, by omega, ⟨⟨rfl, rfl⟩, zF, zB, zN, zX⟩⟩)
      | (have q : s.testBit k = false := hb0
         rw [q, cond_false, List.append_nil] at e
         rw [← e]
         exact ⟨k + 1, by omega, by omega, ⟨⟨rfl, rfl⟩, zF, zB, zN, zX⟩⟩)
     ·have hb0 : s.testBit k = false := by
       have := of_decide_eq_false hc
       rw [bit_eq, Bool.not_eq_true] at this
       exact this
      refine aw ?_
      refine hK6 _ ?_
      refine jb ?_
      first | refine aa rfl (bp rfl rfl rfl (by omega)) ?_ | refine aa rfl (tp rfl rfl rfl) ?_
      refine aa rfl (gy rfl (by constructor)) ?_
      refine jc ?_
      dsimp only [St.put]
      have e := wr k s
      first
      | (have q : s.testBit k = true := hb1
         rw [q, cond_true] at e
         rw [← e]
         exact ⟨k + 1, by omega, by omega, ⟨⟨rfl, rfl⟩, zF, zB, zN, zX⟩⟩)
      | (have q : s.testBit k = false := hb0
         rw [q, cond_false, List.append_nil] at e
         rw [← e]
         exact ⟨k + 1, by omega, by omega, ⟨⟨rfl, rfl⟩, zF, zB, zN, zX⟩⟩)
    ·replace hc := of_decide_eq_false hc
     obtain rfl : k = n := by omega
     refine um 4 (lst (ef k s)) rfl Wk.tok ?_
     refine cr ?_
     show ka _ _ _ _ _ _ _
     refine pq ok rfl ⟨rfl, rfl, zK, zN, zS, zK⟩ ?_
     refine po fun K9 hK9 => ?_
     refine ued ?_
     refine qk rfl (gy rfl (by constructor)) ?_
     refine qk rfl (gy rfl (by constructor)) ?_
     refine qk rfl (gy rfl (by constructor)) ?_
     try dsimp only [St.put]
     refine ueh ok (by rw [hN]; exact hs) rfl rfl rfl rfl (by rw [hcl]; rfl) ?_
     refine qk rfl (dr rfl rfl) ?_
     refine uei ?_
     dsimp only [St.put]
     refine hK9 _ _ ?_
     refine uc rfl (fun h => by cases h) (fun _ => ?_)
     refine ub ?_
     refine hK2 _ _ ?_
     refine li 9 ?_
     refine zQ ?_
     refine uaa ok rfl ?_
     dsimp only [FC.st]
     refine bx fun hlt => ?_
     dsimp only at hlt
     refine jb ?_
     first | refine aa rfl (bp rfl rfl rfl (by omega)) ?_ | refine aa rfl (tp rfl rfl rfl) ?_
     refine aa rfl (gy rfl (by constructor)) ?_
     refine jc ?_
     dsimp only [St.put]
     refine ⟨⟨rfl, rfl, zK, zN, zS, zK⟩, ?_⟩
     exact ⟨s + 1, by omega, by omega, rfl, ⟨⟨rfl, rfl⟩, zF, zB, zN, zX⟩⟩
  ·replace hc := of_decide_eq_false hc
   obtain rfl : s = 2 ^ n := by omega
   refine uac ?_
   exact ⟨.inl rfl, rfl⟩
end Go.Proofs.YtbbdginipiljdaaGreatDoor
namespace Go.AB
open Go Go.RowKit
open Go.AB.Enc (cells)
open Go.PB (az aj PlaceD bj bl bk bw av ai c6 cv dj di)
theorem ufm {so : Nat → Bool} {n k : Nat} : ((d9 so n k).getD []).length ≤ n := by
 rcases xm so n k with ⟨h, _⟩ | ⟨b, h, k⟩
 ·rw [h]; exact Nat.zero_le _
 rw [h]
 obtain ⟨s, _, _, rfl⟩ := k.get
 exact rh n s
theorem xn {so : Nat → Bool} {n k : Nat} (h : so k = false) : d9 so n (k + 1) = d9 so n k := by
 cases hb : d9 so n k with
 | none => rw [ufl hb, h]; rfl
 | some b => rw [uar hb, h]; rfl
theorem xp {so : Nat → Bool} {n k : Nat} (hb : d9 so n k = none) (h : so k = true) : d9 so n (k + 1) = some (ef n k) := by rw [ufl hb, h]; rfl
theorem xo {so : Nat → Bool} {n k : Nat} {b : List Int} (hb : d9 so n k = some b) (h : so k = true) : d9 so n (k + 1) = bif ig (ef n k) b then some (ef n k) else some b := by rw [uar hb, h]; rfl
theorem ubh {α : Type} {l : List α} {k : Nat} {x : α} (h : l[k]? = some x) : l.take (k + 1) = l.take k ++ [x] := by rw [List.take_add_one, h]; rfl
theorem ubc (p : ai) (l : List Int) (z : Int) : kr p (l ++ [z]) = kr p l ++ bif decide (z < (p.firsts.length : Int)) then [z] else [] := by
 unfold kr
 rw [List.filter_append]
 cases h : decide (z < (p.firsts.length : Int)) <;> simp [h]
theorem uba (p : ai) (l : List Int) (z : Int) : kb p (l ++ [z]) = kb p l ++ bif decide (z < (p.firsts.length : Int)) then [] else [z - (p.firsts.length : Int)] := by
 unfold kb
 rw [List.filter_append, List.map_append]
 cases h : decide (z < (p.firsts.length : Int)) <;> simp [h]
theorem x9 (p : ai) (l : List Int) : (kr p l).length ≤ l.length := List.length_filter_le _ _
theorem x8 (p : ai) (l : List Int) : (kb p l).length ≤ l.length := by
 unfold kb
 rw [List.length_map]
 exact List.length_filter_le _ _
theorem ubb {p : ai} {z : Int} (h : z ∈ d8 p) : 0 ≤ z ∧ z < (ax p : Int) := by
 unfold d8 pv at h
 rcases xm (ii p) (ax p) (2 ^ ax p) with ⟨q, _⟩ | ⟨b, q, k⟩
 ·rw [q] at h; cases h
 rw [q] at h
 obtain ⟨s, _, _, rfl⟩ := k.get
 obtain ⟨i, rfl, hi, _⟩ := membersL_mem.1 h
 omega
end Go.AB
namespace Go.Proofs.YtbbdginipiljdaaGreatDoor
set_option maxRecDepth 10000
open Go.RowKit Go.AB
open Go.AB.Enc (cells)
open Go.PB (az aj PlaceD bj bl bk bw av ai c6 cv dj di)
set_option maxHeartbeats 1000000 in
theorem uja (p : ai) : Pure Tryz.prog 18 [val p] (.tup [lst (atE (ec p (c7 p)) [] (kr p (d8 p))), lst (atE (ec p (c7 p)) [] (kb p (d8 p))), .v (.int .i64 (ec p (c7 p)))]) := by
 refine cw Tryz.func18 rfl (fun m => .tup (cp (cc _ _) (cp (cc _ _) (cp .v dp)))) fun G nx => ?_
 simp only [Tryz.ntmps18, List.length_cons, List.length_nil, Nat.reduceAdd, Nat.reduceSub]
 refine bx fun hlt => ?_
 dsimp only at hlt
 refine yS fun _ K1 => ?_
 refine yR ?_
 try dsimp only [St.put]
 refine yB rfl rfl rfl ?_
 refine yA rfl rfl ?_
 refine yA rfl rfl ?_
 refine yA rfl rfl ?_
 refine yN ?_
 dsimp only [St.put]
 refine K1 _ ?_
 refine yS fun _ K2 => ?_
 refine yS fun _ K3 => ?_
 refine yR ?_
 refine yE rfl rfl rfl ?_
 try dsimp only [St.put]
 refine ae rfl (ba rfl rfl rfl (vr p) ?_)
 refine yA rfl rfl ?_
 refine yN ?_
 dsimp only [St.put]
 refine K3 _ ?_
 refine yS fun _ K4 => ?_
 refine yR ?_
 refine yM rfl rfl ?_
 refine aa rfl (fl rfl rfl rfl) ?_
 refine yN ?_
 dsimp only [St.put]
 refine K4 _ ?_
 refine am rfl (fun hc => ?_) (fun hc => ?_)
 ·have h0 : c7 p ≠ 0 := je hc
  have hE : ec p (c7 p) = c7 p := rk h0
  refine yS fun _ K5 => ?_
  refine yR ?_
  refine yM rfl rfl ?_
  refine yA rfl rfl ?_
  refine yA rfl rfl ?_
  refine yA rfl rfl ?_
  refine yN ?_
  dsimp only [St.put]
  refine K5 _ ?_
  refine aq ?_
  refine uf rfl (du (by constructor)) (du (by constructor)) (du (by constructor)) zN zS ?_ ?_ ?_
  ·rw [hE, kj h0]; exact zW
  ·rw [hE, kj h0]; exact zW
  rw [hE]; exact zW
 have h0 : c7 p = 0 := gq hc
 obtain ⟨hok, _⟩ := m7 h0
 have hn1 := hok.nf
 have hn2 := hok.ns
 have hnr : ax p = p.firsts.length + p.seconds.length := rfl
 have hl1 := gk (ax p) (ck p)
 have h64 : 2 ^ ax p ≤ 2 ^ 6 := Nat.pow_le_pow_right (by omega) (by omega)
 have hpos : 0 < 2 ^ ax p := Nat.two_pow_pos _
 refine aw ?_
 refine K2 _ ?_
 refine yS fun _ K6 => ?_
 refine yR ?_
 refine yE rfl rfl rfl ?_
 try dsimp only [St.put]
 refine ae rfl (ba rfl rfl rfl (vo p hok) ?_)
 refine yM rfl rfl ?_
 refine yX rfl rfl rfl rfl ?_
 refine yX rfl rfl rfl rfl ?_
 try dsimp only [St.put]
 refine ae rfl (dd rfl ?_)
 try dsimp only [St.put]
 refine ae rfl (cn rfl rfl rfl zG rfl rfl (by rfl) ?_)
 refine yA rfl rfl ?_
 refine yN ?_
 dsimp only [St.put]
 refine K6 _ ?_
 refine fq (i := 6) rfl zG zC ?_
 dsimp only
 refine yS fun _ K7 => ?_
 refine yS fun _ K8 => ?_
 refine yR ?_
 refine yM rfl rfl ?_
 refine aa rfl (dr rfl rfl) ?_
 refine yN ?_
 dsimp only [St.put]
 refine K8 _ ?_
 refine am rfl (fun hc => ?_) (fun hc => ?_)
 ·have hTB : gw p = false := by simpa using hc
  have hE : ec p (c7 p) = 8 := by rw [h0, mx, hTB]; rfl
  refine yS fun _ K9 => ?_
  refine yR ?_
  refine yA rfl rfl ?_
  refine yA rfl rfl ?_
  refine yA rfl rfl ?_
  refine yN ?_
  dsimp only [St.put]
  refine K9 _ ?_
  refine aq ?_
  refine uf rfl (du (by constructor)) (du (by constructor)) (du (by constructor)) zN zS ?_ ?_ ?_
  ·rw [hE, kj (by decide)]; exact zW
  ·rw [hE, kj (by decide)]; exact zW
  rw [hE]; exact zW
 have hTB : gw p = true := by simpa using hc
 have hE : ec p (c7 p) = 0 := by rw [h0, mx, hTB]; rfl
 rw [ta hTB]
 refine aw ?_
 refine K7 _ ?_
 refine yS fun _ K10 => ?_
 refine yR ?_
 refine yE rfl rfl rfl ?_
 refine yE rfl rfl rfl ?_
 try dsimp only [St.put]
 refine ae rfl (ba rfl rfl rfl (vp p (ck p) (dg p) hok (qm hok)) ?_)
 refine yA rfl rfl ?_
 refine yN ?_
 dsimp only [St.put]
 refine K10 _ ?_
 refine yS fun _ K11 => ?_
 refine yR ?_
 refine yA rfl rfl ?_
 refine yN ?_
 dsimp only [St.put]
 refine K11 _ ?_
 refine yS fun _ K12 => ?_
 refine um 9 (lst ([] : List Int)) rfl Wk.tok ?_
 refine yR ?_
 refine yA rfl rfl ?_
 refine yN ?_
 dsimp only [St.put]
 refine K12 _ ?_
 refine yS fun _ K13 => ?_
 refine yS fun _ K14 => ?_
 refine yR ?_
 refine yA rfl rfl ?_
 refine yN ?_
 dsimp only [St.put]
 refine K14 _ ?_
 refine ay ?_
 refine ci 16 ?_
 refine zQ ?_
 refine c4 (G) zX ?_
 dsimp only
 refine cz (X := Nat) (fun s => s ≤ 2 ^ ax p) (fun s => 2 ^ ax p - s) (fun s => [(9, lst ((d9 (ii p) (ax p) s).getD [])), (10, .v (.bool (d9 (ii p) (ax p) s).isSome)), (11, .v (.int .i64 (s : Int))), (12, .any)]) (fun s G' => G') 0 rfl ?_ ?_ (fun _ _ h => h) ?_ ?_ ?_
 ·exact Nat.zero_le _
 ·exact zF
 ·rintro s hI
  exact zL
 ·exact fun _ _ _ _ h => .inl h
 rintro s hI
 dsimp only at hI ⊢
 refine yS fun _ K15 => ?_
 refine yS fun _ K16 => ?_
 refine yR ?_
 refine yM rfl rfl ?_
 refine yF rfl rfl rfl rfl ?_
 refine yL rfl rfl rfl ?_
 refine aa rfl (bg rfl rfl (List.length_map _)) ?_
 refine aa rfl (wc (n := (bf (ax p) (ck p)).length) rfl rfl rfl (by rw [hl1]; omega)) ?_
 refine aa rfl (cg rfl rfl rfl) ?_
 refine yN ?_
 dsimp only [St.put]
 refine K16 _ ?_
 refine am rfl (fun hc => ?_) (fun hc => ?_)
 ·replace hc := of_decide_eq_true hc
  have hlt : s < 2 ^ ax p := by
   have : (s : Int) < ((2 ^ (bf (ax p) (ck p)).length : Nat) : Int) := hc
   rw [hl1] at this
   omega
  have hbl := ufm (so := ii p) (n := ax p) (k := s)
  have hml := rh (ax p) s
  refine aw ?_
  refine K15 _ ?_
  refine yS fun _ K17 => ?_
  refine ay ?_
  refine yS fun _ K18 => ?_
  refine yR ?_
  refine yM rfl rfl ?_
  refine yF rfl rfl rfl rfl ?_
  refine yL rfl rfl rfl ?_
  refine aa rfl (bg rfl rfl (List.length_map _)) ?_
  try dsimp only [St.put]
  refine ae rfl (ba rfl rfl rfl (ui4 s (bf (ax p) (ck p)).length (by omega) (by omega)) ?_)
  refine yA rfl rfl ?_
  refine yN ?_
  dsimp only [St.put]
  rw [hl1]
  refine K18 _ ?_
  refine ci 16 ?_
  refine zQ ?_
  refine ki (X := Bool) (fun d => d9 (ii p) (ax p) (s + 1) = bif d then some (ef (ax p) s) else d9 (ii p) (ax p) s) (fun d => [(58, .v (.bool d))]) (fun d G' => G') rfl ?_ (fun _ _ _ _ h => .inl h) ?_ ?_
  ·rintro d hI
   exact zL
  ·refine yR ?_
   refine yE rfl rfl rfl ?_
   refine yE rfl rfl rfl ?_
   refine yM rfl rfl ?_
   try dsimp only [St.put]
   refine ae rfl (ba rfl rfl rfl (ucd p (ck p) (dg p) s hok (qm hok) (by omega)) ?_)
   refine yM rfl rfl ?_
   refine aa rfl (j8 rfl rfl rfl) ?_
   refine yM rfl rfl ?_
   refine ei (fun hs => ?_) (fun hs => ?_)
   ·have hw : ii p s = true := hs
    refine yM rfl rfl ?_
    refine aa rfl (dr rfl rfl) ?_
    refine yM rfl rfl ?_
    refine ei (fun hs => ?_) (fun hs => ?_)
    ·have hb0 : d9 (ii p) (ax p) s = none := by simpa using hs
     refine yK rfl ?_
     refine yK rfl ?_
     refine yK rfl ?_
     refine aa rfl (cy rfl rfl (by constructor)) ?_
     refine aa rfl (cy rfl rfl (by constructor)) ?_
     refine yN ?_
     dsimp only [St.put]
     refine ⟨_, ?_, ⟨⟨rfl, rfl⟩, zF, zB, zN, zX⟩⟩
     first
     | exact xn hw
     | exact xp hb0 hw
     | exact xo hb0 hw
    obtain ⟨b, hb0⟩ : ∃ b, d9 (ii p) (ax p) s = some b := by
      cases hb : d9 (ii p) (ax p) s with
      | none => rw [hb] at hs; cases hs
      | some b => exact ⟨b, rfl⟩
    rw [hb0] at hbl
    rw [hb0]
    refine yM rfl rfl ?_
    refine yM rfl rfl ?_
    try dsimp only [St.put]
    refine ae rfl (ba rfl rfl rfl (uji (ef (ax p) s) b (by omega) (by have : b.length ≤ ax p := hbl; omega)) ?_)
    refine aa rfl (cm rfl rfl (by constructor)) ?_
    refine aa rfl (cy rfl rfl (by constructor)) ?_
    refine yN ?_
    dsimp only [St.put]
    refine ⟨_, ?_, ⟨⟨rfl, rfl⟩, zF, zB, zN, zX⟩⟩
    first
    | exact xn hw
    | exact xp hb0 hw
    | exact xo hb0 hw
   have hw : ii p s = false := hs
   refine yK rfl ?_
   refine yK rfl ?_
   refine yK rfl ?_
   refine yK rfl ?_
   refine yK rfl ?_
   refine yK rfl ?_
   refine yK rfl ?_
   refine aa rfl (cm rfl rfl (by constructor)) ?_
   refine yN ?_
   dsimp only [St.put]
   refine ⟨_, ?_, ⟨⟨rfl, rfl⟩, zF, zB, zN, zX⟩⟩
   first
   | exact xn hw
   | exact xp hb0 hw
   | exact xo hb0 hw
  rintro d hst
  dsimp only at hst ⊢
  refine am rfl (fun hc => ?_) (fun hc => ?_)
  ·rw [hc, cond_true] at hst
   refine yR ?_
   refine yM rfl rfl ?_
   refine yA rfl rfl ?_
   refine yA rfl rfl ?_
   refine yN ?_
   dsimp only [St.put]
   refine K17 _ ?_
   refine yR ?_
   refine yM rfl rfl ?_
   refine aa rfl (bp rfl rfl rfl (by omega)) ?_
   refine yA rfl rfl ?_
   refine yN ?_
   dsimp only [St.put]
   first
   | (rw [show ef (ax p) s = (d9 (ii p) (ax p) (s + 1)).getD [] by rw [hst]; rfl, show true = (d9 (ii p) (ax p) (s + 1)).isSome by rw [hst]; rfl]
      exact ⟨s + 1, by omega, by omega, ⟨⟨rfl, rfl⟩, zF, zB, zN, zX⟩⟩)
   | (rw [← hst]
      exact ⟨s + 1, by omega, by omega, ⟨⟨rfl, rfl⟩, zF, zB, zN, zX⟩⟩)
  rw [hc, cond_false] at hst
  refine aw ?_
  refine K17 _ ?_
  refine yR ?_
  refine yM rfl rfl ?_
  refine aa rfl (bp rfl rfl rfl (by omega)) ?_
  refine yA rfl rfl ?_
  refine yN ?_
  dsimp only [St.put]
  first
  | (rw [show ef (ax p) s = (d9 (ii p) (ax p) (s + 1)).getD [] by rw [hst]; rfl, show true = (d9 (ii p) (ax p) (s + 1)).isSome by rw [hst]; rfl]
     exact ⟨s + 1, by omega, by omega, ⟨⟨rfl, rfl⟩, zF, zB, zN, zX⟩⟩)
  | (rw [← hst]
     exact ⟨s + 1, by omega, by omega, ⟨⟨rfl, rfl⟩, zF, zB, zN, zX⟩⟩)
 replace hc := of_decide_eq_false hc
 obtain rfl : s = 2 ^ ax p := by
  have : ¬ (s : Int) < ((2 ^ (bf (ax p) (ck p)).length : Nat) : Int) := hc
  rw [hl1] at this
  omega
 rw [show (d9 (ii p) (ax p) (2 ^ ax p)).getD [] = d8 p from rfl]
 have hwl : (d8 p).length ≤ 6 := by
  have := uas (ii p) (ax p)
  show (pv (ii p) (ax p)).length ≤ 6
  omega
 refine cr ?_
 refine K13 _ ?_
 refine yS fun _ K20 => ?_
 refine yR ?_
 refine yA rfl rfl ?_
 refine yA rfl rfl ?_
 refine yN ?_
 dsimp only [St.put]
 refine K20 _ ?_
 refine lk 13 3 1 rfl (by decide) ?_
 refine lk 14 3 1 rfl (by decide) ?_
 dsimp only [List.set_cons_zero, List.set_cons_succ]
 refine yS fun _ K21 => ?_
 refine yS fun _ K22 => ?_
 refine yR ?_
 refine yA rfl rfl ?_
 refine yN ?_
 dsimp only [St.put]
 refine K22 _ ?_
 refine ay ?_
 refine ci 16 ?_
 refine zQ ?_
 refine c4 ((ah (ah G (nx + 1) (.tip (kr p ((d8 p).take 0)).length 3 1)) (nx + 1 + 1) (.tip (kb p ((d8 p).take 0)).length 3 1))) zX ?_
 dsimp only
 refine cz (X := Nat) (fun k => k ≤ (d8 p).length) (fun k => (d8 p).length - k) (fun k => [(13, .list ((kr p ((d8 p).take k)).map cells) (.tip (nx + 1))), (14, .list ((kb p ((d8 p).take k)).map cells) (.tip (nx + 1 + 1))), (15, .v (.int .i64 (k : Int)))]) (fun k G' => (ah (ah G (nx + 1) (.tip (kr p ((d8 p).take k)).length 3 1)) (nx + 1 + 1) (.tip (kb p ((d8 p).take k)).length 3 1))) 0 rfl ?_ ?_ ?_ ?_ ?_ ?_
 ·exact Nat.zero_le _
 ·exact zF
 ·exact zX
 ·rintro k hI
  exact zL
 ·rintro k hI
  exact zH
 rintro k hK
 dsimp only at hK ⊢
 refine yS fun _ K23 => ?_
 refine yS fun _ K24 => ?_
 refine yR ?_
 refine yM rfl rfl ?_
 refine yM rfl rfl ?_
 refine aa rfl (bg rfl rfl (List.length_map _)) ?_
 refine aa rfl (cg rfl rfl rfl) ?_
 refine yN ?_
 dsimp only [St.put]
 refine K24 _ ?_
 refine am rfl (fun hc => ?_) (fun hc => ?_)
 ·replace hc := of_decide_eq_true hc
  obtain ⟨z, hz⟩ : ∃ z, (d8 p)[k]? = some z := da (by omega)
  have hzb := ubb (fg hz)
  have hF := ubc p ((d8 p).take k) z
  have hS := uba p ((d8 p).take k) z
  rw [← ubh hz] at hF hS
  have hlF := x9 p ((d8 p).take k)
  have hlS := x8 p ((d8 p).take k)
  have hlt2 : ((d8 p).take k).length ≤ 6 := by rw [List.length_take]; omega
  refine aw ?_
  refine K23 _ ?_
  refine yS fun _ K25 => ?_
  refine ay ?_
  refine yS fun _ K26 => ?_
  refine et [(0, none), (1, none), (2, none), (3, none), (4, none), (5, none), (6, none), (7, none)] (fun i => [].contains i) (fun i => [].contains i) (fun i => [0, 1, 2, 4, 6, 7].contains i) [] (by kernel_rfl) (by kernel_rfl) ?_
  refine xM rfl rfl rfl rfl rfl ?_
  refine xM rfl rfl rfl rfl rfl ?_
  try dsimp only [St.put]
  refine af rfl rfl rfl rfl (bn rfl rfl rfl rfl (bi (by assumption)) (Enc.len _)) ?_
  try dsimp only [St.put]
  refine ar rfl rfl rfl rfl (br rfl rfl) ?_
  refine af rfl rfl rfl rfl (cj rfl rfl rfl) ?_
  try dsimp only [St.put]
  refine ar rfl rfl rfl rfl (br rfl rfl) ?_
  refine af rfl rfl rfl rfl (bg rfl rfl (List.length_map _)) ?_
  refine af rfl rfl rfl rfl (cg rfl rfl rfl) ?_
  refine ce ?_
  dsimp only [St.put]
  refine K26 _ ?_
  refine am rfl (fun hc => ?_) (fun hc => ?_)
  ·have hy := of_decide_eq_true hc
   refine yR ?_
   refine yM rfl rfl ?_
   refine yM rfl rfl ?_
   refine yM rfl rfl ?_
   refine aa rfl (bn rfl rfl rfl rfl (bi (by assumption)) (Enc.len _)) ?_
   refine yL rfl rfl rfl ?_
   try dsimp only [St.put]
   refine ae rfl (eg rfl rfl rfl (by decide) (by decide) zR (by decide) ?_)
   try dsimp only [St.put]
   refine ae rfl (ib ([z]) rfl rfl zG zE rfl rfl zA ?_ zA)
   refine yA rfl rfl ?_
   refine yN ?_
   dsimp only [St.put]
   refine K25 _ ?_
   refine yR ?_
   refine yM rfl rfl ?_
   refine aa rfl (bp rfl rfl rfl (by omega)) ?_
   refine yA rfl rfl ?_
   refine yN ?_
   dsimp only [St.put]
   first
   | (have hy2 : z < (p.firsts.length : Int) := hy
      rw [decide_eq_true hy2, cond_true] at hF hS
      rw [List.append_nil] at hS
      simp only [← hF]
      rw [← hS]
      exact ⟨k + 1, by omega, by omega, ⟨⟨rfl, rfl⟩, zF, zB, zN, zX⟩⟩)
   | (have hy2 : ¬ z < (p.firsts.length : Int) := hy
      rw [decide_eq_false hy2, cond_false] at hF hS
      rw [List.append_nil] at hF
      simp only [← hS]
      rw [← hF]
      exact ⟨k + 1, by omega, by omega, ⟨⟨rfl, rfl⟩, zF, zB, zN, zX⟩⟩)
  have hy := of_decide_eq_false hc
  refine et [(0, none), (1, none), (2, none), (3, none), (4, none), (5, none), (6, none), (7, none), (8, none), (9, none), (10, none), (11, none)] (fun i => [9, 10].contains i) (fun i => [9, 10].contains i) (fun i => [0, 1, 2, 3, 5, 7, 8, 11].contains i) [] (by kernel_rfl) (by kernel_rfl) ?_
  refine xM rfl rfl rfl rfl rfl ?_
  refine xM rfl rfl rfl rfl rfl ?_
  refine xM rfl rfl rfl rfl rfl ?_
  try dsimp only [St.put]
  refine af rfl rfl rfl rfl (bn rfl rfl rfl rfl (bi (by assumption)) (Enc.len _)) ?_
  try dsimp only [St.put]
  refine ar rfl rfl rfl rfl (br rfl rfl) ?_
  refine af rfl rfl rfl rfl (cj rfl rfl rfl) ?_
  try dsimp only [St.put]
  refine ar rfl rfl rfl rfl (br rfl rfl) ?_
  refine af rfl rfl rfl rfl (bg rfl rfl (List.length_map _)) ?_
  refine af rfl rfl rfl rfl (f9 rfl rfl rfl (by omega)) ?_
  refine g9 ?_
  try dsimp only [St.put]
  refine fe rfl rfl rfl rfl (eg rfl rfl rfl (by decide) (by decide) zR (by decide) ?_)
  try dsimp only [St.put]
  refine fe rfl rfl rfl rfl (ib ([z - (p.firsts.length : Int)]) rfl rfl zG zE rfl rfl zA ?_ zA)
  refine ed rfl rfl rfl rfl (fw rfl (by constructor)) ?_
  refine g8 ?_
  dsimp only [St.put]
  refine K25 _ ?_
  refine yR ?_
  refine yM rfl rfl ?_
  refine aa rfl (bp rfl rfl rfl (by omega)) ?_
  refine yA rfl rfl ?_
  refine yN ?_
  dsimp only [St.put]
  first
  | (have hy2 : z < (p.firsts.length : Int) := hy
     rw [decide_eq_true hy2, cond_true] at hF hS
     rw [List.append_nil] at hS
     simp only [← hF]
     rw [← hS]
     exact ⟨k + 1, by omega, by omega, ⟨⟨rfl, rfl⟩, zF, zB, zN, zX⟩⟩)
  | (have hy2 : ¬ z < (p.firsts.length : Int) := hy
     rw [decide_eq_false hy2, cond_false] at hF hS
     rw [List.append_nil] at hF
     simp only [← hS]
     rw [← hF]
     exact ⟨k + 1, by omega, by omega, ⟨⟨rfl, rfl⟩, zF, zB, zN, zX⟩⟩)
 replace hc := of_decide_eq_false hc
 refine cr ?_
 refine K21 _ ?_
 refine yS fun _ K27 => ?_
 refine yR ?_
 refine yM rfl rfl ?_
 refine yM rfl rfl ?_
 refine yA rfl rfl ?_
 refine yA rfl rfl ?_
 refine yA rfl rfl ?_
 refine yN ?_
 dsimp only [St.put]
 refine K27 _ ?_
 refine aq ?_
 refine uf rfl (du (by constructor)) (du (by constructor)) (du (by constructor)) zN zS ?_ ?_ ?_
 ·rw [hE, n7, el (show (d8 p).length ≤ k by omega)]; exact zW
 ·rw [hE, n7, el (show (d8 p).length ≤ k by omega)]; exact zW
 rw [hE]; exact zW
end Go.Proofs.YtbbdginipiljdaaGreatDoor
namespace Go.AB
open Go Go.RowKit
open Go.AB.Enc (cells)
open Go.PB (az aj PlaceD bj bl bk bw av ai c6 cv dj di)
theorem und {so : Nat → Bool} {n k : Nat} {b : List Int} (hb : d9 so n k = some b) (h : ig (ef n k) b = false) : d9 so n (k + 1) = some b := by rw [uar hb, h, Bool.and_false]; rfl
end Go.AB
namespace Go.Proofs.YtbbdginipiljdaaGreatDoor
set_option maxRecDepth 10000
open Go.RowKit Go.AB
open Go.AB.Enc (cells)
open Go.PB (az aj PlaceD bj bl bk bw av ai c6 cv dj di)
end Go.Proofs.YtbbdginipiljdaaGreatDoor
namespace Go.AB
open Go Go.RowKit
open Go.AB.Enc (cells)
open Go.PB (az aj PlaceD bj bl bk bw av ai c6 cv dj di)
/-- whether a set is taken, and how often one was -/
def lv (so : Nat → Bool) (n k : Nat) : Bool := so k && match d9 so n k with
 | none => true
 | some b => ig (ef n k) b
def mo (so : Nat → Bool) (n : Nat) : Nat → Nat
 | 0 => 0
 | k + 1 => mo so n k + (lv so n k).toNat
theorem ye {so : Nat → Bool} {n k : Nat} (h : lv so n k = true) : d9 so n (k + 1) = some (ef n k) ∧ mo so n (k + 1) = mo so n k + 1 := by
 refine ⟨?_, by show mo so n k + (lv so n k).toNat = _; rw [h]; rfl⟩
 unfold lv at h
 rw [Bool.and_eq_true] at h
 cases hb : d9 so n k with
 | none => exact xp hb h.1
 | some b =>
  have h2 := h.2
  rw [hb] at h2
  have h3 : ig (ef n k) b = true := h2
  rw [xo hb h.1, h3]; rfl
theorem yf {so : Nat → Bool} {n k : Nat} (h : lv so n k = false) : d9 so n (k + 1) = d9 so n k ∧ mo so n (k + 1) = mo so n k := by
 refine ⟨?_, by show mo so n k + (lv so n k).toNat = _; rw [h]; rfl⟩
 unfold lv at h
 cases hs : so k
 ·exact xn hs
 rw [hs, Bool.true_and] at h
 cases hb : d9 so n k with
 | none => rw [hb] at h; cases h
 | some b =>
  rw [hb] at h
  have h3 : ig (ef n k) b = false := h
  rw [und hb h3]
theorem uhd {so : Nat → Bool} {n k : Nat} (h : so k = false) : lv so n k = false := by unfold lv; rw [h]; rfl
theorem uhe {so : Nat → Bool} {n k : Nat} (h : so k = true) (hb : d9 so n k = none) : lv so n k = true := by unfold lv; rw [h, hb]; rfl
theorem uy {so : Nat → Bool} {n k : Nat} {b : List Int} (h : so k = true) (hb : d9 so n k = some b) : lv so n k = ig (ef n k) b := by unfold lv; rw [h, hb]; rfl
end Go.AB
namespace Go.Proofs.YtbbdginipiljdaaGreatDoor
set_option maxRecDepth 10000
open Go Go.RowKit Go.AB
open Go.AB.Enc (cells)
open Go.PB (az aj PlaceD bj bl bk bw av ai c6 cv dj di)
theorem uh5 (m : Nat) : Pure Tryz.prog 54 [.v (.int .i64 (m : Int))] (.fn (.func 89) [.elem [.v (.int .i64 (m : Int))]]) := by
 refine cw Tryz.func54 rfl (fun m => (.fn (cp (.elem (cp .v dp)) dp))) fun G nx => ?_
 simp only [Tryz.ntmps54, List.length_cons, List.length_nil, Nat.reduceAdd, Nat.reduceSub]
 refine bx fun hlt => ?_
 dsimp only at hlt
 refine yS fun _ K1 => ?_
 refine yR ?_
 try dsimp only [St.put]
 refine yB rfl rfl rfl ?_
 refine yA rfl rfl ?_
 refine yN ?_
 dsimp only [St.put]
 refine K1 _ ?_
 refine yS fun _ K2 => ?_
 refine yR ?_
 refine aa rfl (rf rfl rfl) ?_
 refine yA rfl rfl ?_
 refine yN ?_
 dsimp only [St.put]
 refine K2 _ ?_
 refine aq ?_
 refine bh rfl (by constructor) zN zS ?_
 rfl
set_option maxHeartbeats 1000000 in
theorem ul8 (n : Nat) (m : Nat) (so : Nat → Bool) (k0 : FuncId) (caps : List C) [Fun Tryz.prog k0] (hm : m ≤ 8) (hcl : ∀ N, ∀ c ∈ caps, C.low N c) (hso : ∀ s : Nat, s < 2 ^ m → AB.Pure Tryz.prog k0 (.v (.int .i64 (s : Int)) :: lst (ef m s) :: caps) (.v (.bool (so s)))) : ll n kx Tryz.prog 53 [.fn (.func 89) [.elem [.v (.int .i64 (m : Int))]], .fn (.func k0) caps, .fn (.func 57) []] (lst (pv so m)) := fun G nx hF hnx => by
 refine lz (G) (nx) Tryz.func53 rfl ((cc _ _)) zN (fun hlt => zH) ?_
 simp only [Tryz.ntmps53, List.length_cons, List.length_nil, Nat.reduceAdd, Nat.reduceSub]
 refine bx fun hlt => ?_
 dsimp only at hlt
 refine yS fun _ K1 => ?_
 refine yR ?_
 try dsimp only [St.put]
 refine yB rfl rfl rfl ?_
 try dsimp only [St.put]
 refine yB rfl rfl rfl ?_
 refine yA rfl rfl ?_
 refine yN ?_
 dsimp only [St.put]
 refine K1 _ ?_
 refine yS fun _ K2 => ?_
 refine yR ?_
 try dsimp only [St.put]
 refine ae rfl (dd rfl ?_)
 refine yN ?_
 dsimp only [St.put]
 refine K2 _ ?_
 refine yS fun _ K3 => ?_
 refine yR ?_
 try dsimp only [St.put]
 refine ae rfl (dd rfl ?_)
 try dsimp only [St.put]
 refine ae rfl (cn rfl rfl rfl zG rfl rfl (by rfl) ?_)
 refine yN ?_
 dsimp only [St.put]
 refine K3 _ ?_
 refine yS fun _ K4 => ?_
 refine yS fun _ K5 => ?_
 refine xq nx 0 [lst ([] : List Int)] zG zW ?_
 refine yR ?_
 refine yM rfl rfl ?_
 refine yN ?_
 dsimp only [St.put]
 refine K5 _ ?_
 refine ay ?_
 refine ci 12 ?_
 refine zQ ?_
 refine c4 ((ah (ah G nx (.box (mo so m 0) [lst ((d9 so m 0).getD [])])) (nx + 1) (.box (1 + mo so m 0) [.v (.bool (d9 so m 0).isSome)]))) zX ?_
 dsimp only
 refine ufp [12, 13] (fun k => (ah (ah G nx (.box (mo so m k) [lst ((d9 so m k).getD [])])) (nx + 1) (.box (1 + mo so m k) [.v (.bool (d9 so m k).isSome)]))) (fun k => [(13, lst (ef m k)), (12, .v (.int .i64 (k : Int)))]) (uh6 n m hm) (fun k => zG) (by (try dsimp only); omega) rfl rfl (fun _ => rfl) ?_ ?_ ?_ (fun lr k hrk => ?_) ?_
 ·intro k
  rfl
 ·exact zX
 ·intro k
  exact zH
 ·have hbl := ufm (so := so) (n := m) (k := k)
  have hml := rh m k
  refine yS fun _ K6 => ?_
  refine yR ?_
  refine yA rfl rfl ?_
  refine yN ?_
  dsimp only [St.put]
  refine K6 _ ?_
  refine yR ?_
  refine yA rfl rfl ?_
  refine yN ?_
  dsimp only [St.put]
  show AW _ _ _ _ _
  refine ay ?_
  refine yS fun _ K7 => ?_
  refine yR ?_
  refine yL rfl rfl rfl ?_
  refine yM rfl rfl ?_
  refine yM rfl rfl ?_
  try dsimp only [St.put]
  refine ae rfl (ba rfl rfl rfl (hso k hrk) ?_)
  refine yM rfl rfl ?_
  refine ei (fun hs => ?_) (fun hs => ?_)
  ·have hw : so k = true := hs
   try dsimp only [St.put]
   refine cb rfl (eo rfl rfl zG trivial (by first | rfl | assumption)) ?_
   refine aa rfl (dr rfl rfl) ?_
   refine yM rfl rfl ?_
   refine ei (fun hs => ?_) (fun hs => ?_)
   ·have hb0 : d9 so m k = none := by simpa using hs
    have htk := ye (uhe hw hb0)
    refine yK rfl ?_
    refine yK rfl ?_
    refine yK rfl ?_
    refine yK rfl ?_
    refine yK rfl ?_
    refine aa rfl (cy rfl rfl (by constructor)) ?_
    refine aa rfl (cy rfl rfl (by constructor)) ?_
    refine yN ?_
    dsimp only [St.put]
    refine K7 _ ?_
    refine am rfl (fun _ => ?_) (fun h => by cases h)
    first
    | (have hbf : ig (ef m k) b = true := (vg _ _).symm.trans hc
       have htk := ye ((uy hw hb0).trans hbf))
    | skip
    refine yR ?_
    refine yM rfl rfl ?_
    try dsimp only [St.put]
    refine ae rfl (cn rfl rfl rfl zG rfl rfl (by rfl) ?_)
    try dsimp only [St.put]
    refine ae rfl (cn rfl rfl rfl zG rfl rfl (by rfl) ?_)
    refine yN ?_
    dsimp only [St.put]
    dsimp only [sg, uq]
    first
    | (rw [htk.1, htk.2]
       exact zX)
    | (rw [hke.1, hke.2]
       try rw [hb0]
       exact zX)
   obtain ⟨b, hb0⟩ : ∃ b, d9 so m k = some b := by
     cases hb : d9 so m k with
     | none => rw [hb] at hs; cases hs
     | some b => exact ⟨b, rfl⟩
   rw [hb0] at hbl
   rw [hb0]
   have hbl2 : b.length ≤ m := hbl
   refine yL rfl rfl rfl ?_
   refine yM rfl rfl ?_
   try dsimp only [St.put]
   refine cb rfl (eo rfl rfl zG trivial (by first | rfl | assumption)) ?_
   try dsimp only [St.put]
   refine ae rfl (ba rfl rfl rfl (ujy (ef m k) b (by omega) (by omega)) ?_)
   refine aa rfl (cg rfl rfl rfl) ?_
   refine aa rfl (cm rfl rfl (by constructor)) ?_
   refine aa rfl (cy rfl rfl (by constructor)) ?_
   refine yN ?_
   dsimp only [St.put]
   refine K7 _ ?_
   refine am rfl (fun hc => ?_) (fun hc => ?_)
   ·first
    | (have hbf : ig (ef m k) b = true := (vg _ _).symm.trans hc
       have htk := ye ((uy hw hb0).trans hbf))
    | skip
    refine yR ?_
    refine yM rfl rfl ?_
    try dsimp only [St.put]
    refine ae rfl (cn rfl rfl rfl zG rfl rfl (by rfl) ?_)
    try dsimp only [St.put]
    refine ae rfl (cn rfl rfl rfl zG rfl rfl (by rfl) ?_)
    refine yN ?_
    dsimp only [St.put]
    dsimp only [sg, uq]
    first
    | (rw [htk.1, htk.2]
       exact zX)
    | (rw [hke.1, hke.2]
       try rw [hb0]
       exact zX)
   first
   | (have hbf : ig (ef m k) b = false := (vg _ _).symm.trans hc
      have hke := yf ((uy hw hb0).trans hbf))
   | skip
   refine aw ?_
   dsimp only [sg, uq]
   first
   | (rw [htk.1, htk.2]
      exact zX)
   | (rw [hke.1, hke.2]
      try rw [hb0]
      exact zX)
  have hw : so k = false := hs
  have hke := yf (uhd (n := m) hw)
  refine yK rfl ?_
  refine yK rfl ?_
  refine yK rfl ?_
  refine yK rfl ?_
  refine yK rfl ?_
  refine yK rfl ?_
  refine yK rfl ?_
  refine yK rfl ?_
  refine yK rfl ?_
  refine aa rfl (cm rfl rfl (by constructor)) ?_
  refine yN ?_
  dsimp only [St.put]
  refine K7 _ ?_
  refine am rfl (fun h => by cases h) (fun _ => ?_)
  first
  | (have hbf : ig (ef m k) b = false := (vg _ _).symm.trans hc
     have hke := yf ((uy hw hb0).trans hbf))
  | skip
  refine aw ?_
  dsimp only [sg, uq]
  first
  | (rw [htk.1, htk.2]
     exact zX)
  | (rw [hke.1, hke.2]
     try rw [hb0]
     exact zX)
 dsimp only
 refine K4 _ ?_
 refine yS fun _ K8 => ?_
 refine yR ?_
 try dsimp only [St.put]
 refine cb rfl (eo rfl rfl zG trivial (by first | rfl | assumption)) ?_
 refine yA rfl rfl ?_
 refine yN ?_
 dsimp only [St.put]
 refine K8 _ ?_
 refine aq ?_
 refine bh rfl (by constructor) zN zS ?_
 rfl
theorem ujv (p : ai) (R C : Nat → Int) (a : Int) (s : Nat) (l : List Int) (h : ey p) (hB : Bd p R C) (hs : s ≤ 1000) : Pure Tryz.prog 55 [.v (.int .i64 (s : Int)), lst l, .elem (cells (ij p R C)), .elem [.v (.int .i64 a)]] (.v (.bool (decide ((bu p).f R C (fun i => s.testBit i) = a)))) := by
 refine cw Tryz.func55 rfl (fun m => .v) fun G nx => ?_
 simp only [Tryz.ntmps55, List.length_cons, List.length_nil, Nat.reduceAdd, Nat.reduceSub]
 refine bx fun hlt => ?_
 dsimp only at hlt
 refine yS fun _ K1 => ?_
 refine yR ?_
 refine yA rfl rfl ?_
 refine yN ?_
 dsimp only [St.put]
 refine K1 _ ?_
 refine yS fun _ K2 => ?_
 refine et [(0, none), (1, none), (3, none), (2, none), (4, none), (5, none)] (fun i => [].contains i) (fun i => [2].contains i) (fun i => [1, 4, 5].contains i) [] (by kernel_rfl) (by kernel_rfl) ?_
 try dsimp only [St.put]
 refine ar rfl rfl rfl rfl (dw rfl rfl (Enc.len _)) ?_
 refine xM rfl rfl rfl rfl rfl ?_
 try dsimp only [St.put]
 refine ar rfl rfl rfl rfl (br rfl rfl) ?_
 refine g9 ?_
 try dsimp only [St.put]
 refine gu rfl rfl rfl (ba rfl rfl rfl (ucx p R C s h hB hs) ⟨zD, ?_⟩)
 refine ed rfl rfl rfl rfl (j8 rfl rfl rfl) ?_
 refine ed rfl rfl rfl rfl (fw rfl (by constructor)) ?_
 refine g8 ?_
 dsimp only [St.put]
 refine K2 _ ?_
 refine aq ?_
 refine bh rfl (by constructor) zN zS ?_
 rfl
theorem uip (p : ai) (R Q : Nat → Int) (a : Int) (N : Nat) : ∀ c ∈ [C.elem (cells (ij p R Q)), C.elem [C.v (.int .i64 a)]], C.low N c := cp (fp _ _) (cp (.elem (cp .v dp)) dp)
set_option maxHeartbeats 1000000 in
theorem uju (n : Nat) (p : ai) : ll n kx Tryz.prog 17 [val p] (.tup [lst (atE (ec p (c7 p)) [] (kr p (d8 p))), lst (atE (ec p (c7 p)) [] (kb p (d8 p))), .v (.int .i64 (ec p (c7 p)))]) := fun G nx hF hnx => by
 refine lz (G) (nx) Tryz.func17 rfl (.tup (cp (cc _ _) (cp (cc _ _) (cp .v dp)))) zN (fun hlt => zH) ?_
 simp only [Tryz.ntmps17, List.length_cons, List.length_nil, Nat.reduceAdd, Nat.reduceSub]
 refine bx fun hlt => ?_
 dsimp only at hlt
 refine yS fun _ K1 => ?_
 refine yR ?_
 try dsimp only [St.put]
 refine yB rfl rfl rfl ?_
 refine yA rfl rfl ?_
 refine yA rfl rfl ?_
 refine yA rfl rfl ?_
 refine yN ?_
 dsimp only [St.put]
 refine K1 _ ?_
 refine yS fun _ K2 => ?_
 by_cases hL : ec p (c7 p) = 0
 ·refine yR ?_
  refine yE rfl rfl rfl ?_
  try dsimp only [St.put]
  refine ae rfl (iw rfl rfl rfl (qc n p) zG (by dsimp only [St.put]; omega) ?_)
  refine yX rfl rfl rfl rfl ?_
  refine yX rfl rfl rfl rfl ?_
  try dsimp only [St.put]
  refine ae rfl (iw rfl rfl rfl (vv n p (kd p) (c7 p) ru hL) zG (by dsimp only [St.put]; omega) ?_)
  refine yM rfl rfl ?_
  refine yX rfl rfl rfl rfl ?_
  refine yX rfl rfl rfl rfl ?_
  try dsimp only [St.put]
  refine ae rfl (dd rfl ?_)
  try dsimp only [St.put]
  refine ae rfl (cn rfl rfl rfl zG rfl rfl (by rfl) ?_)
  refine yA rfl rfl ?_
  refine yN ?_
  dsimp only [St.put]
  refine K2 _ ?_
  refine yS fun _ K3 => ?_
  refine yS fun _ K4 => ?_
  refine yR ?_
  refine yM rfl rfl ?_
  refine aa rfl (fl rfl rfl rfl) ?_
  refine yN ?_
  dsimp only [St.put]
  refine K4 _ ?_
  refine am rfl (fun hc => ?_) (fun hc => ?_)
  ·exact absurd hc (by decide)
  obtain ⟨h0, hTB⟩ := wx hL
  obtain ⟨hok, _⟩ := m7 h0
  have hn1 := hok.nf
  have hn2 := hok.ns
  have hnr : ax p = p.firsts.length + p.seconds.length := rfl
  have hl1 := gk (ax p) (ck p)
  have hB := qm hok
  have h64 : 2 ^ ax p ≤ 2 ^ 6 := Nat.pow_le_pow_right (by omega) (by omega)
  have hwl : (d8 p).length ≤ 6 := by
   have := uas (ii p) (ax p)
   show (pv (ii p) (ax p)).length ≤ 6
   omega
  refine aw ?_
  refine K3 _ ?_
  refine yS fun _ K5 => ?_
  refine yR ?_
  try dsimp only [St.put]
  refine cb rfl (gl rfl rfl zG trivial (by rfl)) ?_
  try dsimp only [St.put]
  refine ae rfl (ba rfl rfl rfl (vx p (ck p) (dg p) hok hB) ?_)
  try dsimp only [St.put]
  refine ae rfl (dd rfl ?_)
  try dsimp only [St.put]
  refine ae rfl (cn rfl rfl rfl zG rfl rfl (by rfl) ?_)
  refine yN ?_
  dsimp only [St.put]
  refine K5 _ ?_
  refine fq (i := 5) rfl zG zC ?_
  refine fq (i := 6) rfl zG zC ?_
  dsimp only
  refine yS fun _ K6 => ?_
  refine yS fun _ K7 => ?_
  refine yR ?_
  refine yF rfl rfl rfl rfl ?_
  refine yL rfl rfl rfl ?_
  refine aa rfl (bg rfl rfl (List.length_map _)) ?_
  try dsimp only [St.put]
  refine ae rfl (ba rfl rfl rfl (uh5 (bf (ax p) (ck p)).length) ?_)
  refine aa rfl (rf rfl rfl) ?_
  try dsimp only [St.put]
  refine ae rfl (iw rfl rfl rfl (ul8 n (bf (ax p) (ck p)).length (ii p) 55 [.elem (cells (ij p (ck p) (dg p))), .elem [.v (.int .i64 ((bu p).most (ck p) (dg p)))]] (by rw [hl1]; omega) (uip p _ _ _) (fun s hs => ujv p (ck p) (dg p) _ s _ hok hB (by rw [hl1] at hs; omega))) zG (by dsimp only [St.put]; omega) ?_)
  refine aa rfl (bg rfl rfl (List.length_map _)) ?_
  refine yM rfl rfl ?_
  refine yN ?_
  dsimp only [St.put]
  rw [hl1, show pv (ii p) (ax p) = d8 p from rfl]
  refine K7 _ ?_
  refine lk 2 3 1 rfl (by decide) ?_
  refine lk 3 3 1 rfl (by decide) ?_
  dsimp only [List.set_cons_zero, List.set_cons_succ]
  refine ay ?_
  refine ci 30 ?_
  refine zQ ?_
  refine c4 ((ah (ah G (nx + 1 + 1) (.tip (kr p ((d8 p).take 0)).length 3 1)) (nx + 1 + 1 + 1) (.tip (kb p ((d8 p).take 0)).length 3 1))) zX ?_
  dsimp only
  refine cz (X := Nat) (fun k => k ≤ (d8 p).length) (fun k => (d8 p).length - k) (fun k => [(2, .list ((kr p ((d8 p).take k)).map cells) (.tip (nx + 1 + 1))), (3, .list ((kb p ((d8 p).take k)).map cells) (.tip (nx + 1 + 1 + 1))), (8, .any), (29, .v (.int .i64 (k : Int)))]) (fun k G' => (ah (ah G (nx + 1 + 1) (.tip (kr p ((d8 p).take k)).length 3 1)) (nx + 1 + 1 + 1) (.tip (kb p ((d8 p).take k)).length 3 1))) 0 rfl ?_ ?_ ?_ ?_ ?_ ?_
  ·exact Nat.zero_le _
  ·exact zF
  ·exact zX
  ·rintro k hI
   exact zL
  ·rintro k hI
   exact zH
  rintro k hK
  dsimp only at hK ⊢
  refine yS fun _ K8 => ?_
  refine yR ?_
  refine aa rfl (cg rfl rfl rfl) ?_
  refine yN ?_
  dsimp only [St.put]
  refine K8 _ ?_
  refine yS fun _ K9 => ?_
  refine am rfl (fun hc => ?_) (fun hc => ?_)
  ·replace hc := of_decide_eq_true hc
   obtain ⟨z, hz⟩ : ∃ z, (d8 p)[k]? = some z := da (by omega)
   have hzb := ubb (fg hz)
   have hF3 := ubc p ((d8 p).take k) z
   have hS3 := uba p ((d8 p).take k) z
   rw [← ubh hz] at hF3 hS3
   have hlF := x9 p ((d8 p).take k)
   have hlS := x8 p ((d8 p).take k)
   have hlt2 : ((d8 p).take k).length ≤ 6 := by rw [List.length_take]; omega
   refine aw ?_
   refine K9 _ ?_
   refine yS fun _ K10 => ?_
   refine ay ?_
   refine yS fun _ K11 => ?_
   refine yR ?_
   refine aa rfl (bn rfl rfl rfl rfl (bi (by assumption)) (Enc.len _)) ?_
   refine yL rfl rfl rfl ?_
   refine yA rfl rfl ?_
   refine yN ?_
   dsimp only [St.put]
   refine K11 _ ?_
   refine yS fun _ K12 => ?_
   refine yR ?_
   refine yM rfl rfl ?_
   refine yF rfl rfl rfl rfl ?_
   refine yL rfl rfl rfl ?_
   refine aa rfl (bg rfl rfl (List.length_map _)) ?_
   refine aa rfl (cg rfl rfl rfl) ?_
   refine yN ?_
   dsimp only [St.put]
   refine K12 _ ?_
   refine am rfl (fun hc => ?_) (fun hc => ?_)
   ·have hyes := of_decide_eq_true hc
    refine yR ?_
    refine yM rfl rfl ?_
    refine yM rfl rfl ?_
    try dsimp only [St.put]
    refine ae rfl (eg rfl rfl rfl (by decide) (by decide) zR (by decide) ?_)
    try dsimp only [St.put]
    refine ae rfl (ib ([z]) rfl rfl zG zE rfl rfl zA ?_ zA)
    refine yA rfl rfl ?_
    refine yN ?_
    dsimp only [St.put]
    refine K10 _ ?_
    refine yR ?_
    refine aa rfl (bp rfl rfl rfl (by omega)) ?_
    refine yM rfl rfl ?_
    refine yN ?_
    dsimp only [St.put]
    first
    | (have hy2 : z < (p.firsts.length : Int) := hyes
       rw [decide_eq_true hy2, cond_true] at hF3 hS3
       rw [List.append_nil] at hS3
       simp only [← hF3]
       rw [← hS3]
       exact ⟨k + 1, by omega, by omega, ⟨⟨rfl, rfl⟩, zF, zB, zN, zX⟩⟩)
    | (have hy2 : ¬ z < (p.firsts.length : Int) := hno
       rw [decide_eq_false hy2, cond_false] at hF3 hS3
       rw [List.append_nil] at hF3
       simp only [← hS3]
       rw [← hF3]
       exact ⟨k + 1, by omega, by omega, ⟨⟨rfl, rfl⟩, zF, zB, zN, zX⟩⟩)
   have hno := of_decide_eq_false hc
   refine yR ?_
   refine yM rfl rfl ?_
   refine yM rfl rfl ?_
   refine yF rfl rfl rfl rfl ?_
   refine yL rfl rfl rfl ?_
   refine aa rfl (bg rfl rfl (List.length_map _)) ?_
   refine aa rfl (f9 rfl rfl rfl (by omega)) ?_
   try dsimp only [St.put]
   refine ae rfl (eg rfl rfl rfl (by decide) (by decide) zR (by decide) ?_)
   try dsimp only [St.put]
   refine ae rfl (ib ([z - (p.firsts.length : Int)]) rfl rfl zG zE rfl rfl zA ?_ zA)
   refine yA rfl rfl ?_
   refine yN ?_
   dsimp only [St.put]
   refine K10 _ ?_
   refine yR ?_
   refine aa rfl (bp rfl rfl rfl (by omega)) ?_
   refine yM rfl rfl ?_
   refine yN ?_
   dsimp only [St.put]
   first
   | (have hy2 : z < (p.firsts.length : Int) := hyes
      rw [decide_eq_true hy2, cond_true] at hF3 hS3
      rw [List.append_nil] at hS3
      simp only [← hF3]
      rw [← hS3]
      exact ⟨k + 1, by omega, by omega, ⟨⟨rfl, rfl⟩, zF, zB, zN, zX⟩⟩)
   | (have hy2 : ¬ z < (p.firsts.length : Int) := hno
      rw [decide_eq_false hy2, cond_false] at hF3 hS3
      rw [List.append_nil] at hF3
      simp only [← hS3]
      rw [← hF3]
      exact ⟨k + 1, by omega, by omega, ⟨⟨rfl, rfl⟩, zF, zB, zN, zX⟩⟩)
  replace hc := of_decide_eq_false hc
  refine cr ?_
  refine K6 _ ?_
  refine yS fun _ K13 => ?_
  refine yR ?_
  refine yM rfl rfl ?_
  refine yM rfl rfl ?_
  refine yA rfl rfl ?_
  refine yA rfl rfl ?_
  refine yA rfl rfl ?_
  refine yN ?_
  dsimp only [St.put]
  refine K13 _ ?_
  refine aq ?_
  refine uf rfl (du (by constructor)) (du (by constructor)) (du (by constructor)) zN zS ?_ ?_ ?_
  ·rw [hL, n7, el (show (d8 p).length ≤ k by omega)]; exact zW
  ·rw [hL, n7, el (show (d8 p).length ≤ k by omega)]; exact zW
  rw [hL]; exact zW
 refine yR ?_
 refine yE rfl rfl rfl ?_
 try dsimp only [St.put]
 refine ae rfl (iw rfl rfl rfl (qc n p) zG (by dsimp only [St.put]; omega) ?_)
 refine yX rfl rfl rfl rfl ?_
 refine yX rfl rfl rfl rfl ?_
 try dsimp only [St.put]
 refine ae rfl (iw rfl rfl rfl (vw n p (kd p) (c7 p) ru hL) zG (by dsimp only [St.put]; omega) ?_)
 refine yM rfl rfl ?_
 refine yX rfl rfl rfl rfl ?_
 refine yX rfl rfl rfl rfl ?_
 try dsimp only [St.put]
 refine ae rfl (dd rfl ?_)
 try dsimp only [St.put]
 refine ae rfl (cn rfl rfl rfl zG rfl rfl (by rfl) ?_)
 refine yA rfl rfl ?_
 refine yN ?_
 dsimp only [St.put]
 refine K2 _ ?_
 refine yS fun _ K14 => ?_
 refine yS fun _ K15 => ?_
 refine yR ?_
 refine yM rfl rfl ?_
 refine aa rfl (fl rfl rfl rfl) ?_
 refine yN ?_
 dsimp only [St.put]
 refine K15 _ ?_
 refine am rfl (fun hc => ?_) (fun hc => ?_)
 ·try replace hc := of_decide_eq_true hc
  refine yS fun _ K16 => ?_
  refine yR ?_
  refine yM rfl rfl ?_
  refine yA rfl rfl ?_
  refine yA rfl rfl ?_
  refine yA rfl rfl ?_
  refine yN ?_
  dsimp only [St.put]
  refine K16 _ ?_
  refine aq ?_
  refine uf rfl (du (by constructor)) (du (by constructor)) (du (by constructor)) zN zS ?_ ?_ ?_
  ·rw [kj hL]; exact zW
  ·rw [kj hL]; exact zW
  exact zW
 exact absurd (gq hc) hL
end Go.Proofs.YtbbdginipiljdaaGreatDoor
namespace Go.AB
open Go Go.RowKit
open Go.AB.Enc (cells)
open Go.PB (az aj PlaceD bj bl bk bw av ai c6 cv dj di)
section
variable {P : Program} {o : Oper} {st : St} {K : St → Prop}
end
end Go.AB
namespace Go.Proofs.YtbbdginipiljdaaGreatDoor
set_option maxRecDepth 10000
open Go Go.RowKit Go.AB
open Go.AB.Enc (cells)
open Go.PB (az aj PlaceD bj bl bk bw av ai c6 cv dj di)
theorem zw (a : List Int) (ha : a.length ≤ 1000) : Pure Tryz.prog 19 [lst a, lst a] (.v (.bool true)) := by
 have := uje a a ha
 rwa [decide_eq_true rfl] at this
end Go.Proofs.YtbbdginipiljdaaGreatDoor
namespace Go.AB
open Go Go.RowKit
open Go.AB.Enc (cells)
open Go.PB (az aj PlaceD bj bl bk bw av ai c6 cv)
end Go.AB
namespace Go.AB
open Go Go.RowKit
open Go.AB.Enc (cells)
open Go.PB (az aj PlaceD bj bl bk bw av ai c6 cv dj di)
section
variable {p : ai} {i : Nat} {x : av}
end
end Go.AB
namespace Go.Proofs.YtbbdginipiljdaaGreatDoor
set_option maxRecDepth 10000
open Go Go.RowKit Go.AB
open Go.AB.Enc (cells)
open Go.PB (az aj PlaceD bj bl bk bw av ai c6 cv dj di)
section
variable {p : ai} {i : Nat} {x : av}
end
end Go.Proofs.YtbbdginipiljdaaGreatDoor
namespace Go.AB
open Go Go.RowKit
open Go.AB.Enc (cells)
open Go.PB (az aj PlaceD bj bl bk bw av ai c6 cv dj di)
end Go.AB
namespace Go.Proofs.YtbbdginipiljdaaGreatDoor
set_option maxRecDepth 10000
open Go Go.RowKit Go.AB
open Go.AB.Enc (cells)
open Go.PB (az aj PlaceD bj bl bk bw av ai c6 cv dj di)
end Go.Proofs.YtbbdginipiljdaaGreatDoor
namespace Go.AB
open Go Go.RowKit
open Go.AB.Enc (cells)
open Go.PB (az aj PlaceD bj bl bk bw av ai c6 cv)
def twD (i : Nat) : Bool := [3, 5, 6, 7, 8, 9, 10, 11, 12, 13, 14, 15, 16, 17, 18, 19, 20].contains i
structure TwS (p : ai) (eR eP : TypeId) (G0 : Nat → Option GObj) (n0 nn df : Nat) (l0 : List C) (A0 : Nat → C) (b2 b3 b6 b7 b10 b11 b14 b15 b16 b17 : Bool) (st : St) (a b c d va vb vc : Nat) : Prop where
 n : st.n = nn
 df : st.df = df
 l : st.l = l0
 nx : st.nx = n0 + b3.toNat + b7.toNat + b11.toNat + b16.toNat
 s : ∀ i, twD i = false → bv st.l st.r i = A0 i
 x10 : bv st.l st.r 10 = lst p.firsts
 x14 : bv st.l st.r 14 = lst p.seconds
 x18 : bv st.l st.r 18 = lst p.pages
 x6 : bv st.l st.r 6 = fa p.text
 f2 : b2 = true → bv st.l st.r 7 = fa p.text
 f3 : b3 = true → bv st.l st.r 8 = .own a 0 0
 r3 : b3 = true → n0 ≤ a ∧ a < st.nx
 g3 : b3 = true → b6 = false → st.G a = some (.arr 0 0 eR 2 0 [])
 f6 : b6 = true → bv st.l st.r 11 = .own a va p.firsts.length
 g6 : b6 = true → st.G a = some (.arr va 0 eR 2 p.firsts.length (cx p.firsts))
 f7 : b7 = true → bv st.l st.r 12 = .own b 0 0
 r7 : b7 = true → n0 ≤ b ∧ b < st.nx
 g7 : b7 = true → b10 = false → st.G b = some (.arr 0 0 eR 2 0 [])
 f10 : b10 = true → bv st.l st.r 15 = .own b vb p.seconds.length
 g10 : b10 = true → st.G b = some (.arr vb 0 eR 2 p.seconds.length (cx p.seconds))
 f11 : b11 = true → bv st.l st.r 16 = .own c 0 0
 r11 : b11 = true → n0 ≤ c ∧ c < st.nx
 g11 : b11 = true → b14 = false → st.G c = some (.arr 0 0 eP 6 0 [])
 f14 : b14 = true → bv st.l st.r 19 = .own c vc p.pages.length
 g14 : b14 = true → st.G c = some (.arr vc 0 eP 6 p.pages.length (cx p.pages))
 f15 : b15 = true → bv st.l st.r 20 = .agg [lst p.text, .own a va p.firsts.length, .own b vb p.seconds.length, .own c vc p.pages.length]
 f16 : b16 = true → bv st.l st.r 3 = .box d 0 0
 r16 : b16 = true → n0 ≤ d ∧ d < st.nx
 g16 : b16 = true → b17 = false → st.G d = some (.box 0 [.list [] .nil, .list [] .nil, .list [] .nil, .list [] .nil])
 f17 : b17 = true → st.G d = some (.box 1 [lst p.text, .own a va p.firsts.length, .own b vb p.seconds.length, .own c vc p.pages.length])
 ab : b3 = true → b7 = true → a ≠ b
 ac : b3 = true → b11 = true → a ≠ c
 ad : b3 = true → b16 = true → a ≠ d
 bc : b7 = true → b11 = true → b ≠ c
 bd : b7 = true → b16 = true → b ≠ d
 cd : b11 = true → b16 = true → c ≠ d
 G : ∀ m, (b3 = true → m ≠ a) → (b7 = true → m ≠ b) → (b11 = true → m ≠ c) → (b16 = true → m ≠ d) → st.G m = G0 m
 e6 : b6 = true → b3 = true
 e10 : b10 = true → b7 = true
 e14 : b14 = true → b11 = true
 e17 : b17 = true → b16 = true
 e18 : b17 = true → b15 = true
 q2 : b15 = true → b2 = true
 q6 : b15 = true → b6 = true
 q10 : b15 = true → b10 = true
 q14 : b15 = true → b14 = true
section
variable {p : ai} {eR eP : TypeId} {G0 : Nat → Option GObj} {n0 nn df : Nat} {l0 : List C} {A0 : Nat → C} {b2 b3 b6 b7 b10 b11 b14 b15 b16 b17 : Bool} {st : St} {a b c d va vb vc : Nat}
theorem oh {i j : Nat} (h : twD i = false) (k : twD j = true) : Nat.beq j i = false := by
 cases e : Nat.beq j i
 ·rfl
 ·rw [Nat.eq_of_beq_eq_true e, h] at k; cases k
theorem TwS.step2 (h : TwS p eR eP G0 n0 nn df l0 A0 false b3 b6 b7 b10 b11 b14 b15 b16 b17 st a b c d va vb vc) : TwS p eR eP G0 n0 nn df l0 A0 true b3 b6 b7 b10 b11 b14 b15 b16 b17 (st.put (some 7) (fa p.text)) a b c d va vb vc := by
 exact {
  n := h.n
  df := h.df
  l := h.l
  nx := h.nx
  s := fun i hi => by show (bif Nat.beq 7 i then _ else bv st.l st.r i) = _; rw [oh hi rfl]; exact h.s i hi
  x10 := h.x10
  x14 := h.x14
  x18 := h.x18
  x6 := h.x6
  f2 := fun _ => rfl
  f3 := h.f3
  r3 := h.r3
  g3 := h.g3
  f6 := h.f6
  g6 := h.g6
  f7 := h.f7
  r7 := h.r7
  g7 := h.g7
  f10 := h.f10
  g10 := h.g10
  f11 := h.f11
  r11 := h.r11
  g11 := h.g11
  f14 := h.f14
  g14 := h.g14
  f15 := h.f15
  f16 := h.f16
  r16 := h.r16
  g16 := h.g16
  f17 := h.f17
  ab := h.ab
  ac := h.ac
  ad := h.ad
  bc := h.bc
  bd := h.bd
  cd := h.cd
  G := h.G
  e6 := h.e6
  e10 := h.e10
  e14 := h.e14
  e17 := h.e17
  e18 := h.e18
  q2 := fun _ => rfl
  q6 := h.q6
  q10 := h.q10
  q14 := h.q14 }
theorem TwS.step3 (h : TwS p eR eP G0 n0 nn df l0 A0 b2 false b6 b7 b10 b11 b14 b15 b16 b17 st a b c d va vb vc) (k : b6 = false) (k15 : b15 = false) : TwS p eR eP G0 n0 nn df l0 A0 b2 true b6 b7 b10 b11 b14 b15 b16 b17 (St.put { st with G := ah st.G st.nx (.arr 0 0 eR 2 0 []), nx := st.nx + 1 } (some 8) (.own st.nx 0 0)) st.nx b c d va vb vc := by
 have hnx := h.nx
 subst k
 subst k15
 exact {
  n := h.n
  df := h.df
  l := h.l
  nx := by show st.nx + 1 = _; rw [hnx]; simp only [Bool.toNat_true, Bool.toNat_false] <;> omega
  s := fun i hi => by show (bif Nat.beq 8 i then _ else bv st.l st.r i) = _; rw [oh hi rfl]; exact h.s i hi
  x10 := h.x10
  x14 := h.x14
  x18 := h.x18
  x6 := h.x6
  f2 := h.f2
  f3 := fun _ => rfl
  r3 := fun _ => ⟨by omega, Nat.lt_succ_self _⟩
  g3 := fun _ _ => jt _ _ _
  f6 := fun e => nomatch e
  g6 := fun e => nomatch e
  f7 := h.f7
  r7 := fun e => ⟨(h.r7 e).1, Nat.lt_succ_of_lt (h.r7 e).2⟩
  g7 := fun e f => (dc (Nat.ne_of_lt (h.r7 e).2)).trans (h.g7 e f)
  f10 := h.f10
  g10 := fun f => have e := h.e10 f; (dc (Nat.ne_of_lt (h.r7 e).2)).trans (h.g10 f)
  f11 := h.f11
  r11 := fun e => ⟨(h.r11 e).1, Nat.lt_succ_of_lt (h.r11 e).2⟩
  g11 := fun e f => (dc (Nat.ne_of_lt (h.r11 e).2)).trans (h.g11 e f)
  f14 := h.f14
  g14 := fun f => have e := h.e14 f; (dc (Nat.ne_of_lt (h.r11 e).2)).trans (h.g14 f)
  f15 := fun e => nomatch e
  f16 := h.f16
  r16 := fun e => ⟨(h.r16 e).1, Nat.lt_succ_of_lt (h.r16 e).2⟩
  g16 := fun e f => (dc (Nat.ne_of_lt (h.r16 e).2)).trans (h.g16 e f)
  f17 := fun f => nomatch h.e18 f
  ab := fun _ e => (Nat.ne_of_lt (h.r7 e).2).symm
  ac := fun _ e => (Nat.ne_of_lt (h.r11 e).2).symm
  ad := fun _ e => (Nat.ne_of_lt (h.r16 e).2).symm
  bc := h.bc
  bd := h.bd
  cd := h.cd
  G := fun m h1 h2 h3 h4 => (dc (h1 rfl)).trans (h.G m (fun e => nomatch e) h2 h3 h4)
  e6 := fun e => nomatch e
  e10 := h.e10
  e14 := h.e14
  e17 := h.e17
  e18 := h.e18
  q2 := h.q2
  q6 := h.q6
  q10 := h.q10
  q14 := h.q14 }
theorem TwS.step6 (h : TwS p eR eP G0 n0 nn df l0 A0 b2 true false b7 b10 b11 b14 b15 b16 b17 st a b c d va vb vc) (k15 : b15 = false) (w : Nat) : TwS p eR eP G0 n0 nn df l0 A0 b2 true true b7 b10 b11 b14 b15 b16 b17 (St.put { st with G := ah st.G a (.arr w 0 eR 2 p.firsts.length (cx p.firsts)) } (some 11) (.own a w p.firsts.length)) a b c d w vb vc := by
 subst k15
 exact {
  n := h.n
  df := h.df
  l := h.l
  nx := h.nx
  s := fun i hi => by show (bif Nat.beq 11 i then _ else bv st.l st.r i) = _; rw [oh hi rfl]; exact h.s i hi
  x10 := h.x10
  x14 := h.x14
  x18 := h.x18
  x6 := h.x6
  f2 := h.f2
  f3 := h.f3
  r3 := h.r3
  g3 := fun _ e => nomatch e
  f6 := fun _ => rfl
  g6 := fun _ => jt _ _ _
  f7 := h.f7
  r7 := h.r7
  g7 := fun e f => (dc (h.ab rfl e).symm).trans (h.g7 e f)
  f10 := h.f10
  g10 := fun f => have e := h.e10 f; (dc (h.ab rfl e).symm).trans (h.g10 f)
  f11 := h.f11
  r11 := h.r11
  g11 := fun e f => (dc (h.ac rfl e).symm).trans (h.g11 e f)
  f14 := h.f14
  g14 := fun f => have e := h.e14 f; (dc (h.ac rfl e).symm).trans (h.g14 f)
  f15 := fun e => nomatch e
  f16 := h.f16
  r16 := h.r16
  g16 := fun e f => (dc (h.ad rfl e).symm).trans (h.g16 e f)
  f17 := fun f => nomatch h.e18 f
  ab := h.ab
  ac := h.ac
  ad := h.ad
  bc := h.bc
  bd := h.bd
  cd := h.cd
  G := fun m h1 h2 h3 h4 => (dc (h1 rfl)).trans (h.G m h1 h2 h3 h4)
  e6 := fun _ => rfl
  e10 := h.e10
  e14 := h.e14
  e17 := h.e17
  e18 := h.e18
  q2 := h.q2
  q6 := fun _ => rfl
  q10 := h.q10
  q14 := h.q14 }
theorem TwS.step7 (h : TwS p eR eP G0 n0 nn df l0 A0 b2 b3 b6 false b10 b11 b14 b15 b16 b17 st a b c d va vb vc) (k : b10 = false) (k15 : b15 = false) : TwS p eR eP G0 n0 nn df l0 A0 b2 b3 b6 true b10 b11 b14 b15 b16 b17 (St.put { st with G := ah st.G st.nx (.arr 0 0 eR 2 0 []), nx := st.nx + 1 } (some 12) (.own st.nx 0 0)) a st.nx c d va vb vc := by
 have hnx := h.nx
 subst k
 subst k15
 exact {
  n := h.n
  df := h.df
  l := h.l
  nx := by show st.nx + 1 = _; rw [hnx]; simp only [Bool.toNat_true, Bool.toNat_false] <;> omega
  s := fun i hi => by show (bif Nat.beq 12 i then _ else bv st.l st.r i) = _; rw [oh hi rfl]; exact h.s i hi
  x10 := h.x10
  x14 := h.x14
  x18 := h.x18
  x6 := h.x6
  f2 := h.f2
  f3 := h.f3
  r3 := fun e => ⟨(h.r3 e).1, Nat.lt_succ_of_lt (h.r3 e).2⟩
  g3 := fun e f => (dc (Nat.ne_of_lt (h.r3 e).2)).trans (h.g3 e f)
  f6 := h.f6
  g6 := fun f => have e := h.e6 f; (dc (Nat.ne_of_lt (h.r3 e).2)).trans (h.g6 f)
  f7 := fun _ => rfl
  r7 := fun _ => ⟨by omega, Nat.lt_succ_self _⟩
  g7 := fun _ _ => jt _ _ _
  f10 := fun e => nomatch e
  g10 := fun e => nomatch e
  f11 := h.f11
  r11 := fun e => ⟨(h.r11 e).1, Nat.lt_succ_of_lt (h.r11 e).2⟩
  g11 := fun e f => (dc (Nat.ne_of_lt (h.r11 e).2)).trans (h.g11 e f)
  f14 := h.f14
  g14 := fun f => have e := h.e14 f; (dc (Nat.ne_of_lt (h.r11 e).2)).trans (h.g14 f)
  f15 := fun e => nomatch e
  f16 := h.f16
  r16 := fun e => ⟨(h.r16 e).1, Nat.lt_succ_of_lt (h.r16 e).2⟩
  g16 := fun e f => (dc (Nat.ne_of_lt (h.r16 e).2)).trans (h.g16 e f)
  f17 := fun f => nomatch h.e18 f
  ab := fun e _ => Nat.ne_of_lt (h.r3 e).2
  ac := h.ac
  ad := h.ad
  bc := fun _ e => (Nat.ne_of_lt (h.r11 e).2).symm
  bd := fun _ e => (Nat.ne_of_lt (h.r16 e).2).symm
  cd := h.cd
  G := fun m h1 h2 h3 h4 => (dc (h2 rfl)).trans (h.G m h1 (fun e => nomatch e) h3 h4)
  e6 := h.e6
  e10 := fun e => nomatch e
  e14 := h.e14
  e17 := h.e17
  e18 := h.e18
  q2 := h.q2
  q6 := h.q6
  q10 := h.q10
  q14 := h.q14 }
theorem TwS.step10 (h : TwS p eR eP G0 n0 nn df l0 A0 b2 b3 b6 true false b11 b14 b15 b16 b17 st a b c d va vb vc) (k15 : b15 = false) (w : Nat) : TwS p eR eP G0 n0 nn df l0 A0 b2 b3 b6 true true b11 b14 b15 b16 b17 (St.put { st with G := ah st.G b (.arr w 0 eR 2 p.seconds.length (cx p.seconds)) } (some 15) (.own b w p.seconds.length)) a b c d va w vc := by
 subst k15
 exact {
  n := h.n
  df := h.df
  l := h.l
  nx := h.nx
  s := fun i hi => by show (bif Nat.beq 15 i then _ else bv st.l st.r i) = _; rw [oh hi rfl]; exact h.s i hi
  x10 := h.x10
  x14 := h.x14
  x18 := h.x18
  x6 := h.x6
  f2 := h.f2
  f3 := h.f3
  r3 := h.r3
  g3 := fun e f => (dc (h.ab e rfl)).trans (h.g3 e f)
  f6 := h.f6
  g6 := fun f => have e := h.e6 f; (dc (h.ab e rfl)).trans (h.g6 f)
  f7 := h.f7
  r7 := h.r7
  g7 := fun _ e => nomatch e
  f10 := fun _ => rfl
  g10 := fun _ => jt _ _ _
  f11 := h.f11
  r11 := h.r11
  g11 := fun e f => (dc (h.bc rfl e).symm).trans (h.g11 e f)
  f14 := h.f14
  g14 := fun f => have e := h.e14 f; (dc (h.bc rfl e).symm).trans (h.g14 f)
  f15 := fun e => nomatch e
  f16 := h.f16
  r16 := h.r16
  g16 := fun e f => (dc (h.bd rfl e).symm).trans (h.g16 e f)
  f17 := fun f => nomatch h.e18 f
  ab := h.ab
  ac := h.ac
  ad := h.ad
  bc := h.bc
  bd := h.bd
  cd := h.cd
  G := fun m h1 h2 h3 h4 => (dc (h2 rfl)).trans (h.G m h1 h2 h3 h4)
  e6 := h.e6
  e10 := fun _ => rfl
  e14 := h.e14
  e17 := h.e17
  e18 := h.e18
  q2 := h.q2
  q6 := h.q6
  q10 := fun _ => rfl
  q14 := h.q14 }
theorem TwS.step11 (h : TwS p eR eP G0 n0 nn df l0 A0 b2 b3 b6 b7 b10 false b14 b15 b16 b17 st a b c d va vb vc) (k : b14 = false) (k15 : b15 = false) : TwS p eR eP G0 n0 nn df l0 A0 b2 b3 b6 b7 b10 true b14 b15 b16 b17 (St.put { st with G := ah st.G st.nx (.arr 0 0 eP 6 0 []), nx := st.nx + 1 } (some 16) (.own st.nx 0 0)) a b st.nx d va vb vc := by
 have hnx := h.nx
 subst k
 subst k15
 exact {
  n := h.n
  df := h.df
  l := h.l
  nx := by show st.nx + 1 = _; rw [hnx]; simp only [Bool.toNat_true, Bool.toNat_false] <;> omega
  s := fun i hi => by show (bif Nat.beq 16 i then _ else bv st.l st.r i) = _; rw [oh hi rfl]; exact h.s i hi
  x10 := h.x10
  x14 := h.x14
  x18 := h.x18
  x6 := h.x6
  f2 := h.f2
  f3 := h.f3
  r3 := fun e => ⟨(h.r3 e).1, Nat.lt_succ_of_lt (h.r3 e).2⟩
  g3 := fun e f => (dc (Nat.ne_of_lt (h.r3 e).2)).trans (h.g3 e f)
  f6 := h.f6
  g6 := fun f => have e := h.e6 f; (dc (Nat.ne_of_lt (h.r3 e).2)).trans (h.g6 f)
  f7 := h.f7
  r7 := fun e => ⟨(h.r7 e).1, Nat.lt_succ_of_lt (h.r7 e).2⟩
  g7 := fun e f => (dc (Nat.ne_of_lt (h.r7 e).2)).trans (h.g7 e f)
  f10 := h.f10
  g10 := fun f => have e := h.e10 f; (dc (Nat.ne_of_lt (h.r7 e).2)).trans (h.g10 f)
  f11 := fun _ => rfl
  r11 := fun _ => ⟨by omega, Nat.lt_succ_self _⟩
  g11 := fun _ _ => jt _ _ _
  f14 := fun e => nomatch e
  g14 := fun e => nomatch e
  f15 := fun e => nomatch e
  f16 := h.f16
  r16 := fun e => ⟨(h.r16 e).1, Nat.lt_succ_of_lt (h.r16 e).2⟩
  g16 := fun e f => (dc (Nat.ne_of_lt (h.r16 e).2)).trans (h.g16 e f)
  f17 := fun f => nomatch h.e18 f
  ab := h.ab
  ac := fun e _ => Nat.ne_of_lt (h.r3 e).2
  ad := h.ad
  bc := fun e _ => Nat.ne_of_lt (h.r7 e).2
  bd := h.bd
  cd := fun _ e => (Nat.ne_of_lt (h.r16 e).2).symm
  G := fun m h1 h2 h3 h4 => (dc (h3 rfl)).trans (h.G m h1 h2 (fun e => nomatch e) h4)
  e6 := h.e6
  e10 := h.e10
  e14 := fun e => nomatch e
  e17 := h.e17
  e18 := h.e18
  q2 := h.q2
  q6 := h.q6
  q10 := h.q10
  q14 := h.q14 }
theorem TwS.step14 (h : TwS p eR eP G0 n0 nn df l0 A0 b2 b3 b6 b7 b10 true false b15 b16 b17 st a b c d va vb vc) (k15 : b15 = false) (w : Nat) : TwS p eR eP G0 n0 nn df l0 A0 b2 b3 b6 b7 b10 true true b15 b16 b17 (St.put { st with G := ah st.G c (.arr w 0 eP 6 p.pages.length (cx p.pages)) } (some 19) (.own c w p.pages.length)) a b c d va vb w := by
 subst k15
 exact {
  n := h.n
  df := h.df
  l := h.l
  nx := h.nx
  s := fun i hi => by show (bif Nat.beq 19 i then _ else bv st.l st.r i) = _; rw [oh hi rfl]; exact h.s i hi
  x10 := h.x10
  x14 := h.x14
  x18 := h.x18
  x6 := h.x6
  f2 := h.f2
  f3 := h.f3
  r3 := h.r3
  g3 := fun e f => (dc (h.ac e rfl)).trans (h.g3 e f)
  f6 := h.f6
  g6 := fun f => have e := h.e6 f; (dc (h.ac e rfl)).trans (h.g6 f)
  f7 := h.f7
  r7 := h.r7
  g7 := fun e f => (dc (h.bc e rfl)).trans (h.g7 e f)
  f10 := h.f10
  g10 := fun f => have e := h.e10 f; (dc (h.bc e rfl)).trans (h.g10 f)
  f11 := h.f11
  r11 := h.r11
  g11 := fun _ e => nomatch e
  f14 := fun _ => rfl
  g14 := fun _ => jt _ _ _
  f15 := fun e => nomatch e
  f16 := h.f16
  r16 := h.r16
  g16 := fun e f => (dc (h.cd rfl e).symm).trans (h.g16 e f)
  f17 := fun f => nomatch h.e18 f
  ab := h.ab
  ac := h.ac
  ad := h.ad
  bc := h.bc
  bd := h.bd
  cd := h.cd
  G := fun m h1 h2 h3 h4 => (dc (h3 rfl)).trans (h.G m h1 h2 h3 h4)
  e6 := h.e6
  e10 := h.e10
  e14 := fun _ => rfl
  e17 := h.e17
  e18 := h.e18
  q2 := h.q2
  q6 := h.q6
  q10 := h.q10
  q14 := fun _ => rfl }
theorem TwS.step15 (h : TwS p eR eP G0 n0 nn df l0 A0 true b3 true b7 true b11 true false b16 b17 st a b c d va vb vc) : TwS p eR eP G0 n0 nn df l0 A0 true b3 true b7 true b11 true true b16 b17 (st.put (some 20) (.agg [lst p.text, .own a va p.firsts.length, .own b vb p.seconds.length, .own c vc p.pages.length])) a b c d va vb vc := by
 exact {
  n := h.n
  df := h.df
  l := h.l
  nx := h.nx
  s := fun i hi => by show (bif Nat.beq 20 i then _ else bv st.l st.r i) = _; rw [oh hi rfl]; exact h.s i hi
  x10 := h.x10
  x14 := h.x14
  x18 := h.x18
  x6 := h.x6
  f2 := h.f2
  f3 := h.f3
  r3 := h.r3
  g3 := h.g3
  f6 := h.f6
  g6 := h.g6
  f7 := h.f7
  r7 := h.r7
  g7 := h.g7
  f10 := h.f10
  g10 := h.g10
  f11 := h.f11
  r11 := h.r11
  g11 := h.g11
  f14 := h.f14
  g14 := h.g14
  f15 := fun _ => rfl
  f16 := h.f16
  r16 := h.r16
  g16 := h.g16
  f17 := h.f17
  ab := h.ab
  ac := h.ac
  ad := h.ad
  bc := h.bc
  bd := h.bd
  cd := h.cd
  G := h.G
  e6 := h.e6
  e10 := h.e10
  e14 := h.e14
  e17 := h.e17
  e18 := fun _ => rfl
  q2 := fun _ => rfl
  q6 := fun _ => rfl
  q10 := fun _ => rfl
  q14 := fun _ => rfl }
theorem TwS.step16 (h : TwS p eR eP G0 n0 nn df l0 A0 b2 b3 b6 b7 b10 b11 b14 b15 false b17 st a b c d va vb vc) (k : b17 = false) : TwS p eR eP G0 n0 nn df l0 A0 b2 b3 b6 b7 b10 b11 b14 b15 true b17 (St.put { st with G := ah st.G st.nx (.box 0 [.list [] .nil, .list [] .nil, .list [] .nil, .list [] .nil]), nx := st.nx + 1 } (some 3) (.box st.nx 0 0)) a b c st.nx va vb vc := by
 have hnx := h.nx
 subst k
 exact {
  n := h.n
  df := h.df
  l := h.l
  nx := by show st.nx + 1 = _; rw [hnx]; simp only [Bool.toNat_true, Bool.toNat_false] <;> omega
  s := fun i hi => by show (bif Nat.beq 3 i then _ else bv st.l st.r i) = _; rw [oh hi rfl]; exact h.s i hi
  x10 := h.x10
  x14 := h.x14
  x18 := h.x18
  x6 := h.x6
  f2 := h.f2
  f3 := h.f3
  r3 := fun e => ⟨(h.r3 e).1, Nat.lt_succ_of_lt (h.r3 e).2⟩
  g3 := fun e f => (dc (Nat.ne_of_lt (h.r3 e).2)).trans (h.g3 e f)
  f6 := h.f6
  g6 := fun f => have e := h.e6 f; (dc (Nat.ne_of_lt (h.r3 e).2)).trans (h.g6 f)
  f7 := h.f7
  r7 := fun e => ⟨(h.r7 e).1, Nat.lt_succ_of_lt (h.r7 e).2⟩
  g7 := fun e f => (dc (Nat.ne_of_lt (h.r7 e).2)).trans (h.g7 e f)
  f10 := h.f10
  g10 := fun f => have e := h.e10 f; (dc (Nat.ne_of_lt (h.r7 e).2)).trans (h.g10 f)
  f11 := h.f11
  r11 := fun e => ⟨(h.r11 e).1, Nat.lt_succ_of_lt (h.r11 e).2⟩
  g11 := fun e f => (dc (Nat.ne_of_lt (h.r11 e).2)).trans (h.g11 e f)
  f14 := h.f14
  g14 := fun f => have e := h.e14 f; (dc (Nat.ne_of_lt (h.r11 e).2)).trans (h.g14 f)
  f15 := h.f15
  f16 := fun _ => rfl
  r16 := fun _ => ⟨by omega, Nat.lt_succ_self _⟩
  g16 := fun _ _ => jt _ _ _
  f17 := fun e => nomatch e
  ab := h.ab
  ac := h.ac
  ad := fun e _ => Nat.ne_of_lt (h.r3 e).2
  bc := h.bc
  bd := fun e _ => Nat.ne_of_lt (h.r7 e).2
  cd := fun e _ => Nat.ne_of_lt (h.r11 e).2
  G := fun m h1 h2 h3 h4 => (dc (h4 rfl)).trans (h.G m h1 h2 h3 (fun e => nomatch e))
  e6 := h.e6
  e10 := h.e10
  e14 := h.e14
  e17 := fun e => nomatch e
  e18 := fun e => nomatch e
  q2 := h.q2
  q6 := h.q6
  q10 := h.q10
  q14 := h.q14 }
theorem TwS.step17 (h : TwS p eR eP G0 n0 nn df l0 A0 b2 b3 b6 b7 b10 b11 b14 true true false st a b c d va vb vc) : TwS p eR eP G0 n0 nn df l0 A0 b2 b3 b6 b7 b10 b11 b14 true true true { st with G := ah st.G d (.box 1 [lst p.text, .own a va p.firsts.length, .own b vb p.seconds.length, .own c vc p.pages.length]) } a b c d va vb vc := by
 exact {
  n := h.n
  df := h.df
  l := h.l
  nx := h.nx
  s := h.s
  x10 := h.x10
  x14 := h.x14
  x18 := h.x18
  x6 := h.x6
  f2 := h.f2
  f3 := h.f3
  r3 := h.r3
  g3 := fun e f => (dc (h.ad e rfl)).trans (h.g3 e f)
  f6 := h.f6
  g6 := fun f => have e := h.e6 f; (dc (h.ad e rfl)).trans (h.g6 f)
  f7 := h.f7
  r7 := h.r7
  g7 := fun e f => (dc (h.bd e rfl)).trans (h.g7 e f)
  f10 := h.f10
  g10 := fun f => have e := h.e10 f; (dc (h.bd e rfl)).trans (h.g10 f)
  f11 := h.f11
  r11 := h.r11
  g11 := fun e f => (dc (h.cd e rfl)).trans (h.g11 e f)
  f14 := h.f14
  g14 := fun f => have e := h.e14 f; (dc (h.cd e rfl)).trans (h.g14 f)
  f15 := h.f15
  f16 := h.f16
  r16 := h.r16
  g16 := fun _ e => nomatch e
  f17 := fun _ => jt _ _ _
  ab := h.ab
  ac := h.ac
  ad := h.ad
  bc := h.bc
  bd := h.bd
  cd := h.cd
  G := fun m h1 h2 h3 h4 => (dc (h4 rfl)).trans (h.G m h1 h2 h3 h4)
  e6 := h.e6
  e10 := h.e10
  e14 := h.e14
  e17 := fun _ => rfl
  e18 := fun _ => rfl
  q2 := h.q2
  q6 := h.q6
  q10 := h.q10
  q14 := h.q14 }
end
end Go.AB
