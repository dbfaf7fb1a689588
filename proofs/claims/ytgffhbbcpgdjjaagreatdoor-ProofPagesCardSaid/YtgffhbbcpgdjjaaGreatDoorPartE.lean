/-
  What the walks through the program rest on: values, states, steps, calls (RdOpen, AbFW, RfLefts, QnRef, QrRef, ReAsk, RjRests, QoRef, RkTotal, RgSets, QpRef, QqRef, RlChief, SaAlive, PkGuess, SbFacts, PnPages, AbRangeN, HaCopy, HeMap, KbIndex).
-/
import Derived.Test.YtgffhbbcpgdjjaaGreatDoorPartD
import Derived.Test.YtgffhbbcpgdjjaaGreatDoorPartB
import Derived.Test.YtgffhbbcpgdjjaaGreatDoorPartC
namespace Go.AB
open Go Go.RowKit
open Go.AB.Enc (cells)
open Go.PB (bg aj PlaceD bn bq bp ck az ak dc ce dr dv)
/-- the readers that have been looked at -/
def ia (p : ak) : Nat → List ck
 | 0 => []
 | 1 => p.firsts
 | _ => p.firsts ++ p.seconds
theorem ujb {p : ak} : ∀ {k : Nat}, k < 2 → ia p (k + 1) = ia p k ++ ec p (decide (k = 1))
 | 0, _ => rfl
 | 1, _ => rfl
 | k + 2, h => by omega
def okR (l : List ck) : Prop := l.all gy = true ∧ (l.map (·.id)).Nodup
theorem ulg {l : List ck} {r : ck} (h : okR l) (h1 : gy r = true) (h2 : r.id ∉ l.map (·.id)) : okR (l ++ [r]) := by
 refine ⟨by rw [List.all_append, h.1]; simp [h1], ?_⟩
 rw [List.map_append, List.nodup_append]
 refine ⟨h.2, by simp, fun a ha b hb e => ?_⟩
 simp only [List.map_cons, List.map_nil, List.mem_singleton] at hb
 subst hb; subst e
 exact h2 ha
theorem uja {p : ak} : ∀ {k i : Nat}, k < 2 → (ia p k ++ (ec p (decide (k = 1))).take i) <+: (p.firsts ++ p.seconds)
 | 0, i, _ => by
  show [] ++ p.firsts.take i <+: p.firsts ++ p.seconds
  rw [List.nil_append]
  exact (List.take_prefix i p.firsts).trans (List.prefix_append _ _)
 | 1, i, _ => (List.prefix_append_right_inj p.firsts).2 (List.take_prefix i p.seconds)
 | k + 2, _, h => by omega
theorem uj0 {p : ak} {k i : Nat} {r : ck} (hk : k < 2) (hr : (ec p (decide (k = 1)))[i]? = some r) (hb : gy r = false ∨ r.id ∈ (ia p k ++ (ec p (decide (k = 1))).take i).map (·.id)) : gk p = false := by
 have hpre := uja (p := p) (k := k) (i := i + 1) hk
 rw [List.take_add_one, hr, Option.toList_some, ← List.append_assoc] at hpre
 unfold gk jw
 rcases hb with h | h
 ·have : (p.firsts ++ p.seconds).all gy = false := List.all_eq_false.2 ⟨r, hpre.subset (by simp), by rw [h]; simp⟩
  rw [this]; simp
 have : ¬ ((p.firsts ++ p.seconds).map (·.id)).Nodup := fun hn => by
  have h2 := hn.sublist (List.Sublist.map (·.id) hpre.sublist)
  rw [List.map_append, List.nodup_append] at h2
  exact h2.2.2 _ h r.id (by simp) rfl
 rw [decide_eq_false this]; simp
theorem ul4 {p : ak} {b : Bool} (h : ¬ (ec p b).length ≤ 3) : gk p = false := by
 unfold gk jw
 cases b
 ·rw [decide_eq_false (show ¬ p.firsts.length ≤ 3 from h)]; simp
 rw [decide_eq_false (show ¬ p.seconds.length ≤ 3 from h)]; simp
theorem ukk {p : ak} (h : ¬ p.pages.length ≤ 8) : gk p = false := by
 unfold gk
 rw [decide_eq_false h]; simp
theorem um4 {l : List ck} (r : ck) : kd (iz (l.map (·.id))) r.id (.v (.bool true)) = iz ((l ++ [r]).map (·.id)) := by
 funext x
 unfold kd iz
 rw [List.map_append]
 by_cases hx : x = r.id
 ·simp [hx]
 simp [hx]
/-- a side of a page is as it may be -/
def tp (p : ak) (x : az) (b : Bool) : Bool := inB (fy b x) (-1) (((ec p b).length : Int) - 1) && io p.text x (fy b x) (dp b x)
def qk (p : ak) (last : Int) (x : az) : Bool := decide (last < x.fr) && decide (x.fr ≤ x.to) && decide (x.to < (mn p.text : Int))
def pf (p : ak) (last : Int) (x : az) : Nat → Bool
 | 0 => qk p last x
 | k + 1 => pf p last x k && tp p x (decide (k = 1))
theorem uiw (p : ak) (last : Int) (x : az) : pf p last x 2 = l8 p last x := by
 show ((qk p last x && tp p x false) && tp p x true) = _
 unfold qk tp l8
 cases decide (last < x.fr) <;> cases decide (x.fr ≤ x.to) <;> cases decide (x.to < (mn p.text : Int)) <;> simp [ec, fy, dp, Bool.and_assoc]
/-- where proofs are opened -/
def jx (p : ak) : C := bif decide (dg p = 0) then .elem [lst p.text, lst p.firsts, lst p.seconds, lst p.pages, lst (p.pages.map fun x => (fh p.text x : Int)), lst (p.pages.map (et p.text)), lst (p.pages.map (eb p.text))] else .v (.pointer none)
theorem udm (m : Nat) (p : ak) : C.low m (jx p) := by
 unfold jx
 cases decide (dg p = 0)
 ·exact .v
 refine .elem fun c hc => ?_
 simp only [List.mem_cons, List.not_mem_nil, or_false] at hc
 rcases hc with rfl | rfl | rfl | rfl | rfl | rfl | rfl <;> exact co m _
theorem wz {p : ak} (h : dg p = 0) : jx p = .elem [lst p.text, lst p.firsts, lst p.seconds, lst p.pages, lst (p.pages.map fun x => (fh p.text x : Int)), lst (p.pages.map (et p.text)), lst (p.pages.map (eb p.text))] := by unfold jx; rw [decide_eq_true h]; rfl
theorem ub {p : ak} (h : dg p ≠ 0) : jx p = .v (.pointer none) := by unfold jx; rw [decide_eq_false h]; rfl
theorem yv {α : Type} {l : List α} {k : Nat} {x : α} (h : l[k]? = some x) : l.take (k + 1) = l.take k ++ [x] := by rw [List.take_add_one, h]; rfl
theorem nil_len {α : Type} {l : List α} : l = [] ↔ (l.length : Int) = 0 := by
 constructor
 ·rintro rfl; rfl
 intro h; exact List.eq_nil_of_length_eq_zero (by omega)
theorem je {t : aj} {x : az} {l : List PlaceD} {i : Nat} {q : PlaceD} (h : l[i]? = some q) : jo t x l i = (f5 t q && em t x q && (decide (i = 0) || match l[i - 1]? with | none => true | some a => m5 a q)) := by unfold jo; rw [h]; rfl
theorem uoj {p : ak} (h : c7 p.text = false) : dg p = 10 := by unfold dg; rw [h]; rfl
theorem x5 {p : ak} (h : c7 p.text = true) (hp : gk p = false) : dg p = 90 := by unfold dg; rw [h, hp]; rfl
theorem uok {p : ak} (h : c7 p.text = true) (hp : gk p = true) : dg p = 0 := by unfold dg; rw [h, hp]; rfl
end Go.AB
namespace Go.Proofs.YtgffhbbcpgdjjaaGreatDoor
set_option maxRecDepth 10000
open Go Go.RowKit Go.AB
open Go.AB.Enc (cells)
open Go.PB (bg aj PlaceD bn bq bp ck az ak dc ce dr dv)
set_option maxHeartbeats 4000000 in
theorem oq (n : Nat) (p : ak) : fu n fm Tryz.prog 44 [val p] (.tup [jx p, .v (.int .i64 (dg p))]) := fun G nx hF hnx => by
 refine ix (G) (nx) Tryz.func44 rfl (.tup (ct (udm _ _) (ct .v dj))) zN (fun hlt => zH) ?_
 simp only [Tryz.ntmps44, List.length_cons, List.length_nil, Nat.reduceAdd, Nat.reduceSub]
 refine cp fun hlt => ?_
 dsimp only at hlt
 refine yS fun _ K1 => ?_
 refine yR ?_
 try dsimp only [St.put]
 refine yB rfl rfl rfl ?_
 refine yA rfl rfl ?_
 refine yA rfl rfl ?_
 refine yN ?_
 dsimp only [St.put]
 refine K1 _ ?_
 refine ugl ?_
 refine yS fun _ K2 => ?_
 refine yS fun _ K3 => ?_
 refine yR ?_
 refine yF rfl rfl rfl rfl ?_
 try dsimp only [St.put]
 refine ae rfl (c := gp p.text) (jb (cs := cells p) rfl rfl (show 1 ≤ 4 by decide)) ?_
 try dsimp only [St.put]
 refine af rfl (bl rfl rfl rfl (uei p.text) ?_)
 refine yA rfl rfl ?_
 refine yN ?_
 dsimp only [St.put]
 refine K3 _ ?_
 refine yS fun _ K4 => ?_
 refine yR ?_
 refine yM rfl rfl ?_
 refine aa rfl (fq rfl rfl rfl) ?_
 refine yN ?_
 dsimp only [St.put]
 refine K4 _ ?_
 refine bd rfl (fun hc => ?_) (fun hc => ?_)
 ·have ht : c7 p.text = false := by
   have h0 := j8 hc
   unfold fw at h0
   cases h1 : c7 p.text
   ·rfl
   rw [h1] at h0; exact absurd rfl h0
  have hE : dg p = 10 := uoj ht
  have hR : fw p.text = 10 := by simp [fw, ht]
  refine yS fun _ K5 => ?_
  refine yR ?_
  refine yM rfl rfl ?_
  refine yA rfl rfl ?_
  refine yA rfl rfl ?_
  refine yN ?_
  dsimp only [St.put]
  refine K5 _ ?_
  refine bc ?_
  refine jk rfl (by constructor) (by constructor) zN zS ?_ ?_
  ·rw [ub (by rw [hE]; decide)]
  rw [hE, hR]
 have ht : c7 p.text = true := by
  have h0 := iy hc
  unfold fw at h0
  cases h1 : c7 p.text
  ·rw [h1] at h0; cases h0
  rfl
 obtain ⟨hl1, hl2, hl3⟩ := lj ht
 have hll : mn p.text ≤ 60 := vz ht _ (Nat.le_refl _)
 refine bi ?_
 refine K2 _ ?_
 refine yS fun _ K6 => ?_
 refine yR ?_
 refine yF rfl rfl rfl rfl ?_
 try dsimp only [St.put]
 refine ae rfl (c := gp p.text) (jb (cs := cells p) rfl rfl (show 1 ≤ 4 by decide)) ?_
 try dsimp only [St.put]
 refine af rfl (bl rfl rfl rfl (uky p.text ht) ?_)
 refine yM rfl rfl ?_
 refine yX rfl rfl rfl rfl ?_
 refine yX rfl rfl rfl rfl ?_
 refine yA rfl rfl ?_
 refine yA rfl rfl ?_
 refine yN ?_
 dsimp only [St.put]
 refine K6 _ ?_
 refine yS fun _ K7 => ?_
 refine yR ?_
 try dsimp only [St.put]
 refine af rfl (uau (α := Int) rfl ?_)
 refine yA rfl rfl ?_
 refine yN ?_
 dsimp only [St.put]
 refine K7 _ ?_
 refine yS fun _ K8 => ?_
 refine yS fun _ K9 => ?_
 refine yR ?_
 try dsimp only [St.put]
 refine ae rfl (cd (n := 6) (m := n) rfl rfl zG rfl) ?_
 refine yM rfl rfl ?_
 refine yN ?_
 dsimp only [St.put]
 refine K9 _ ?_
 refine cb ?_
 refine dh 38 ?_
 refine zQ ?_
 refine du (ay G nx (i1 Tryz.prog 3 0 fun _ => none)) zX ?_
 dsimp only
 refine dz (X := Nat) (fun k => k ≤ 2 ∧ okR (ia p k) ∧ ((0 < k → p.firsts.length ≤ 3) ∧ (1 < k → p.seconds.length ≤ 3))) (fun k => 2 - k) (fun k => [(9, .any), (11, .any), (37, .v (.int .i64 (k : Int)))]) (fun k G' => (ay G (nx) (i1 Tryz.prog 3 (((ia p k).length)) (iz (((ia p k)).map (·.id)))))) 0 rfl ?_ ?_ ?_ ?_ ?_ ?_
 ·exact ⟨by omega, ⟨rfl, List.nodup_nil⟩, fun h => absurd h (Nat.lt_irrefl _), fun h => by omega⟩
 ·exact zF
 ·rw [show iz ((ia p 0).map (·.id)) = fun _ => none from ues]
  exact zX
 ·rintro k hI
  exact (by (try dsimp only); repeat' (first | exact trivial | refine ⟨?_, ?_⟩ | exact .v | exact .any | refine .elem ?_ | exact co _ _ | exact f8 _ _ | exact ey _ _ | exact ge _ (by (try dsimp only); omega) | exact .box (by (try dsimp only); omega) | exact fp | exact dj | exact i0 (jz _ _) | refine gj ?_ ?_ | exact .arr (by (try dsimp only); omega) | exact .own (by (try dsimp only); omega) | exact .map (by (try dsimp only); omega) | exact ff _ | refine ct ?_ ?_ | exact co _ _))
 ·rintro k hI
  exact (by (repeat' (refine lu ?_ (by (try dsimp only); omega) ?_)); all_goals (first | exact ly zS | (repeat' (first | exact trivial | refine ⟨?_, ?_⟩ | exact .v | exact .any | refine .elem ?_ | exact co _ _ | exact f8 _ _ | exact ey _ _ | exact ge _ (by (try dsimp only); omega) | exact .box (by (try dsimp only); omega) | exact fp | exact dj | exact i0 (jz _ _) | refine gj ?_ ?_ | exact .arr (by (try dsimp only); omega) | exact .own (by (try dsimp only); omega) | exact .map (by (try dsimp only); omega) | exact ff _ | refine ct ?_ ?_ | exact co _ _))))
 rintro k hI
 dsimp only at hI ⊢
 refine yS fun _ K10 => ?_
 refine yR ?_
 refine aa rfl (c5 rfl rfl rfl) ?_
 refine yN ?_
 dsimp only [St.put]
 refine K10 _ ?_
 refine yS fun _ K11 => ?_
 refine bd rfl (fun hc => ?_) (fun hc => ?_)
 ·replace hc := of_decide_eq_true hc
  have hk : k < 2 := by omega
  refine bi ?_
  refine K11 _ ?_
  refine yS fun _ K12 => ?_
  refine cb ?_
  refine yS fun _ K13 => ?_
  refine yR ?_
  refine aa rfl (w8 (k := k) (m := 2) (sz := 3) rfl rfl rfl rfl hk (wa hk)) ?_
  try dsimp only [St.put]
  refine af rfl (dt rfl ?_)
  try dsimp only [St.put]
  refine af rfl (da rfl rfl rfl zG rfl rfl (by rfl) ?_)
  refine yN ?_
  dsimp only [St.put]
  refine K13 _ ?_
  refine gl (i := 9) rfl zG zC ?_
  dsimp only
  refine yS fun _ K14 => ?_
  refine yS fun _ K15 => ?_
  refine yR ?_
  refine yF rfl rfl rfl rfl ?_
  refine yL rfl rfl rfl ?_
  refine yE rfl rfl rfl ?_
  try dsimp only [St.put]
  refine af rfl (bl rfl rfl rfl (pg (decide (k = 1)) p) ?_)
  refine aa rfl (bj rfl rfl (List.length_map _)) ?_
  refine aa rfl (im rfl rfl rfl) ?_
  refine yN ?_
  dsimp only [St.put]
  refine K15 _ ?_
  refine bd rfl (fun hc => ?_) (fun hc => ?_)
  ·have hs3 : ¬ (ec p (decide (k = 1))).length ≤ 3 := by
    have := of_decide_eq_true hc
    omega
   have hE : dg p = 90 := x5 ht (ul4 hs3)
   refine yS fun _ K16 => ?_
   refine yR ?_
   refine yA rfl rfl ?_
   refine yA rfl rfl ?_
   refine yN ?_
   dsimp only [St.put]
   refine K16 _ ?_
   refine bc ?_
   refine jk rfl (by constructor) (by constructor) zN zS ?_ ?_
   ·rw [ub (by rw [hE]; decide)]
   rw [hE]
  have hs3 : (ec p (decide (k = 1))).length ≤ 3 := by
   have := of_decide_eq_false hc
   omega
  refine bi ?_
  refine K14 _ ?_
  refine yS fun _ K17 => ?_
  refine yR ?_
  refine yF rfl rfl rfl rfl ?_
  refine yL rfl rfl rfl ?_
  refine yE rfl rfl rfl ?_
  try dsimp only [St.put]
  refine af rfl (bl rfl rfl rfl (pg (decide (k = 1)) p) ?_)
  refine aa rfl (bj rfl rfl (List.length_map _)) ?_
  refine yM rfl rfl ?_
  refine yN ?_
  dsimp only [St.put]
  rw [show iz ((ia p k).map (·.id)) = iz ((ia p k ++ (ec p (decide (k = 1))).take 0).map (·.id)) by simp]
  refine K17 _ ?_
  refine cb ?_
  refine dh 52 ?_
  refine zQ ?_
  refine du ((ay G (nx) (i1 Tryz.prog 3 (((ia p k).length)) (iz (((ia p k ++ (ec p (decide (k = 1))).take 0)).map (·.id)))))) zX ?_
  dsimp only
  refine dz (X := Nat) (fun i => i ≤ (ec p (decide (k = 1))).length ∧ okR (ia p k ++ (ec p (decide (k = 1))).take i)) (fun i => (ec p (decide (k = 1))).length - i) (fun i => [(11, .any), (51, .v (.int .i64 (i : Int)))]) (fun i G' => (ay G (nx) (i1 Tryz.prog 3 (((ia p k ++ (ec p (decide (k = 1))).take i).length)) (iz (((ia p k ++ (ec p (decide (k = 1))).take i)).map (·.id)))))) 0 rfl ?_ ?_ ?_ ?_ ?_ ?_
  ·exact ⟨Nat.zero_le _, by simpa using hI.2.1⟩
  ·exact zF
  ·rw [show (ia p k ++ (ec p (decide (k = 1))).take 0).length = (ia p k).length by simp]
   exact zX
  ·rintro i hI
   exact (by (try dsimp only); repeat' (first | exact trivial | refine ⟨?_, ?_⟩ | exact .v | exact .any | refine .elem ?_ | exact co _ _ | exact f8 _ _ | exact ey _ _ | exact ge _ (by (try dsimp only); omega) | exact .box (by (try dsimp only); omega) | exact fp | exact dj | exact i0 (jz _ _) | refine gj ?_ ?_ | exact .arr (by (try dsimp only); omega) | exact .own (by (try dsimp only); omega) | exact .map (by (try dsimp only); omega) | exact ff _ | refine ct ?_ ?_ | exact co _ _))
  ·rintro i hI
   exact (by (repeat' (refine lu ?_ (by (try dsimp only); omega) ?_)); all_goals (first | exact ly zS | (repeat' (first | exact trivial | refine ⟨?_, ?_⟩ | exact .v | exact .any | refine .elem ?_ | exact co _ _ | exact f8 _ _ | exact ey _ _ | exact ge _ (by (try dsimp only); omega) | exact .box (by (try dsimp only); omega) | exact fp | exact dj | exact i0 (jz _ _) | refine gj ?_ ?_ | exact .arr (by (try dsimp only); omega) | exact .own (by (try dsimp only); omega) | exact .map (by (try dsimp only); omega) | exact ff _ | refine ct ?_ ?_ | exact co _ _))))
  rintro i hJ
  dsimp only at hJ ⊢
  refine yS fun _ K18 => ?_
  refine yR ?_
  refine aa rfl (c5 rfl rfl rfl) ?_
  refine yN ?_
  dsimp only [St.put]
  refine K18 _ ?_
  refine yS fun _ K19 => ?_
  refine bd rfl (fun hc => ?_) (fun hc => ?_)
  ·replace hc := of_decide_eq_true hc
   obtain ⟨r, hr⟩ : ∃ r, (ec p (decide (k = 1)))[i]? = some r := d8 (by omega)
   obtain ⟨L, hL⟩ : ∃ L, ia p k ++ (ec p (decide (k = 1))).take i = L := ⟨_, rfl⟩
   refine bi ?_
   refine K19 _ ?_
   refine yS fun _ K20 => ?_
   refine cb ?_
   refine yS fun _ K21 => ?_
   refine yR ?_
   refine aa rfl (bk rfl rfl rfl rfl (bu (by assumption)) (Enc.len _)) ?_
   refine yE rfl rfl rfl ?_
   try dsimp only [St.put]
   refine af rfl (dt rfl ?_)
   try dsimp only [St.put]
   refine af rfl (da rfl rfl rfl zG rfl rfl (by rfl) ?_)
   refine yN ?_
   dsimp only [St.put]
   refine K21 _ ?_
   refine gl (i := 11) rfl zG zC ?_
   dsimp only
   refine yS fun _ K22 => ?_
   refine dh 52 ?_
   refine zQ ?_
   refine l5 (X := Bool) (fun d => d = !(gy r && !decide (r.id ∈ (ia p k ++ (ec p (decide (k = 1))).take i).map (·.id)))) (fun d => [(72, .v (.bool d))]) (fun d G' => G') rfl ?_ (fun _ _ _ _ h => .inl h) ?_ ?_
   ·rintro d hI
    exact (by (try dsimp only); repeat' (first | exact trivial | refine ⟨?_, ?_⟩ | exact .v | exact .any | refine .elem ?_ | exact co _ _ | exact f8 _ _ | exact ey _ _ | exact ge _ (by (try dsimp only); omega) | exact .box (by (try dsimp only); omega) | exact fp | exact dj | exact i0 (jz _ _) | refine gj ?_ ?_ | exact .arr (by (try dsimp only); omega) | exact .own (by (try dsimp only); omega) | exact .map (by (try dsimp only); omega) | exact ff _ | refine ct ?_ ?_ | exact co _ _))
   ·refine yR ?_
    refine yF rfl rfl rfl rfl ?_
    refine yL rfl rfl rfl ?_
    try dsimp only [St.put]
    refine af rfl (el rfl rfl rfl (by decide) (by decide) zR (by decide) ?_)
    try dsimp only [St.put]
    refine af rfl (bl rfl rfl rfl (nk _ _ [_]) ?_)
    refine aa rfl (ei rfl rfl) ?_
    refine yM rfl rfl ?_
    refine er (fun hs => ?_) (fun hs => ?_)
    ·have h5 : inB r.id 0 9999 = false := by rw [gu] at hs; simpa using hs
     refine yK rfl ?_
     refine yK rfl ?_
     refine yK rfl ?_
     refine yK rfl ?_
     refine aa rfl (cn rfl rfl (by constructor)) ?_
     refine yM rfl rfl ?_
     refine yK rfl ?_
     refine yK rfl ?_
     refine yK rfl ?_
     refine yK rfl ?_
     refine yK rfl ?_
     refine aa rfl (cn rfl rfl (by constructor)) ?_
     refine yN ?_
     dsimp only [St.put]
     refine ⟨_, ?_, ⟨⟨rfl, rfl⟩, zF, zB, zN, zX⟩⟩
     unfold gy
     first
     | (rw [h5]; simp; done)
     | (rw [decide_eq_true h11]; simp; done)
     | (rw [h5, decide_eq_false h11, gu]; simp)
    have h5 : inB r.id 0 9999 = true := by rw [gu] at hs; simpa using hs
    refine yM rfl rfl ?_
    refine yF rfl rfl rfl rfl ?_
    refine yL rfl rfl rfl ?_
    try dsimp only [St.put]
    refine ae rfl (we r.id rfl rfl zG trivial rfl (uet _ _)) ?_
    refine aa rfl (cv rfl rfl (by constructor)) ?_
    refine yM rfl rfl ?_
    refine er (fun hs => ?_) (fun hs => ?_)
    ·have h11 := of_decide_eq_true hs
     refine yK rfl ?_
     refine yK rfl ?_
     refine yK rfl ?_
     refine yK rfl ?_
     refine yK rfl ?_
     refine aa rfl (cn rfl rfl (by constructor)) ?_
     refine yN ?_
     dsimp only [St.put]
     refine ⟨_, ?_, ⟨⟨rfl, rfl⟩, zF, zB, zN, zX⟩⟩
     unfold gy
     first
     | (rw [h5]; simp; done)
     | (rw [decide_eq_true h11]; simp; done)
     | (rw [h5, decide_eq_false h11, gu]; simp)
    have h11 := of_decide_eq_false hs
    refine yF rfl rfl rfl rfl ?_
    refine yL rfl rfl rfl ?_
    try dsimp only [St.put]
    refine af rfl (el rfl rfl rfl (by decide) (by decide) zR (by decide) ?_)
    try dsimp only [St.put]
    refine af rfl (bl rfl rfl rfl (nk _ _ [_]) ?_)
    refine aa rfl (ei rfl rfl) ?_
    refine aa rfl (cv rfl rfl (by constructor)) ?_
    refine yN ?_
    dsimp only [St.put]
    refine ⟨_, ?_, ⟨⟨rfl, rfl⟩, zF, zB, zN, zX⟩⟩
    unfold gy
    first
    | (rw [h5]; simp; done)
    | (rw [decide_eq_true h11]; simp; done)
    | (rw [h5, decide_eq_false h11, gu]; simp)
   rintro d hst
   dsimp only at hst ⊢
   refine bd rfl (fun hc => ?_) (fun hc => ?_)
   ·have hbad : gy r = false ∨ r.id ∈ (ia p k ++ (ec p (decide (k = 1))).take i).map (·.id) := by
     rw [hc] at hst
     cases h1 : gy r
     ·exact .inl rfl
     rw [h1] at hst
     right
     exact Classical.byContradiction fun h2 => by rw [decide_eq_false h2] at hst; cases hst
    have hE : dg p = 90 := x5 ht (uj0 hk hr hbad)
    refine yS fun _ K24 => ?_
    refine yR ?_
    refine yA rfl rfl ?_
    refine yA rfl rfl ?_
    refine yN ?_
    dsimp only [St.put]
    refine K24 _ ?_
    refine bc ?_
    refine jk rfl (by constructor) (by constructor) zN zS ?_ ?_
    ·rw [ub (by rw [hE]; decide)]
    rw [hE]
   have hgood : gy r = true ∧ r.id ∉ (ia p k ++ (ec p (decide (k = 1))).take i).map (·.id) := by
    rw [hc] at hst
    cases h1 : gy r
    ·rw [h1] at hst; cases hst
    rw [h1] at hst
    exact ⟨rfl, fun h2 => by rw [decide_eq_true h2] at hst; cases hst⟩
   refine bi ?_
   refine K22 _ ?_
   refine yR ?_
   refine yM rfl rfl ?_
   refine yF rfl rfl rfl rfl ?_
   refine yL rfl rfl rfl ?_
   try dsimp only [St.put]
   refine af rfl (vd (r.id) rfl rfl rfl zG rfl ((show kd (iz ((ia p k ++ (ec p (decide (k = 1))).take i).map (·.id))) r.id (.v (.bool true)) = iz ((ia p k ++ (ec p (decide (k = 1))).take (i + 1)).map (·.id)) from by rw [yv hr, ← List.append_assoc]; exact um4 r)) ?_)
   refine yN ?_
   dsimp only [St.put]
   refine K20 _ ?_
   refine yR ?_
   refine aa rfl (cm rfl rfl rfl (by omega)) ?_
   refine yM rfl rfl ?_
   refine yN ?_
   dsimp only [St.put]
   rw [show (ia p k ++ (ec p (decide (k = 1))).take i).length + 1 = (ia p k ++ (ec p (decide (k = 1))).take (i + 1)).length by rw [yv hr, ← List.append_assoc, List.length_append (bs := [r])]; rfl]
   exact ⟨i + 1, by omega, ⟨by omega, by rw [yv hr, ← List.append_assoc]; exact ulg hJ.2 hgood.1 hgood.2⟩, ⟨⟨rfl, rfl⟩, zF, zB, zN, zX⟩⟩
  replace hc := of_decide_eq_false hc
  refine dq ?_
  refine K12 _ ?_
  refine yR ?_
  refine aa rfl (cm rfl rfl rfl (by omega)) ?_
  refine yM rfl rfl ?_
  refine yN ?_
  dsimp only [St.put]
  rw [show ia p k ++ (ec p (decide (k = 1))).take i = ia p (k + 1) by rw [ujb hk, g9 (by omega)]] at hJ ⊢
  exact ⟨k + 1, by omega, ⟨by omega, hJ.2, by
   have h3 := hI.2.2
   by_cases e : k = 0
   ·subst e; exact ⟨fun _ => hs3, fun h => by omega⟩
   have e1 : k = 1 := by omega
   subst e1; exact ⟨fun _ => h3.1 (by omega), fun _ => hs3⟩⟩, ⟨⟨rfl, rfl⟩, zF, zB, zN, zX⟩⟩
 replace hc := of_decide_eq_false hc
 obtain rfl : k = 2 := by omega
 have hRB : jw p = true := by
  unfold jw
  have h2 := hI.2.1
  have h3 := hI.2.2
  rw [decide_eq_true (h3.1 (by omega)), decide_eq_true (h3.2 (by omega)), show (p.firsts ++ p.seconds).all gy = true from h2.1, decide_eq_true (show ((p.firsts ++ p.seconds).map (·.id)).Nodup from h2.2)]; rfl
 have hn1 : p.firsts.length ≤ 3 := hI.2.2.1 (by omega)
 have hn2 : p.seconds.length ≤ 3 := hI.2.2.2 (by omega)
 have hsl : ∀ b, (ec p b).length ≤ 3 := fun b => by cases b; exact hn1; exact hn2
 refine dq ?_
 refine K8 _ ?_
 refine yS fun _ K25 => ?_
 refine yS fun _ K26 => ?_
 refine yR ?_
 refine yF rfl rfl rfl rfl ?_
 refine yL rfl rfl rfl ?_
 refine aa rfl (bj rfl rfl (List.length_map _)) ?_
 refine aa rfl (im rfl rfl rfl) ?_
 refine yN ?_
 dsimp only [St.put]
 refine K26 _ ?_
 refine bd rfl (fun hc => ?_) (fun hc => ?_)
 ·have hnp : ¬ p.pages.length ≤ 8 := by
   have := of_decide_eq_true hc
   omega
  have hE : dg p = 90 := x5 ht (ukk hnp)
  refine yS fun _ K27 => ?_
  refine yR ?_
  refine yA rfl rfl ?_
  refine yA rfl rfl ?_
  refine yN ?_
  dsimp only [St.put]
  refine K27 _ ?_
  refine bc ?_
  refine jk rfl (by constructor) (by constructor) zN zS ?_ ?_
  ·rw [ub (by rw [hE]; decide)]
  rw [hE]
 have hnp : p.pages.length ≤ 8 := by
  have := of_decide_eq_false hc
  omega
 refine bi ?_
 refine K25 _ ?_
 refine yS fun _ K28 => ?_
 refine yR ?_
 refine yE rfl rfl rfl ?_
 refine aa rfl (ie rfl rfl) ?_
 try dsimp only [St.put]
 refine af rfl (xw rfl rfl ?_)
 refine yA rfl rfl ?_
 refine yN ?_
 dsimp only [St.put]
 refine K28 _ ?_
 refine sl (nx + 1) 4 _ _ 3 1 zG rfl (by decide) ?_
 refine sl (nx + 1) 5 _ _ 36 1 zG rfl (by decide) ?_
 refine sl (nx + 1) 6 _ _ 36 1 zG rfl (by decide) ?_
 dsimp only [List.set_cons_zero, List.set_cons_succ]
 refine yS fun _ K29 => ?_
 refine yR ?_
 refine yA rfl rfl ?_
 refine yN ?_
 dsimp only [St.put]
 refine K29 _ ?_
 refine yS fun _ K30 => ?_
 refine yR ?_
 refine yA rfl rfl ?_
 refine yN ?_
 dsimp only [St.put]
 refine K30 _ ?_
 refine yS fun _ K31 => ?_
 refine ugp ?_
 refine K31 _ ?_
 refine yS fun _ K32 => ?_
 refine yS fun _ K33 => ?_
 refine yR ?_
 refine yF rfl rfl rfl rfl ?_
 refine yL rfl rfl rfl ?_
 refine aa rfl (bj rfl rfl (List.length_map _)) ?_
 refine yM rfl rfl ?_
 refine yN ?_
 dsimp only [St.put]
 refine K33 _ ?_
 refine cb ?_
 refine dh 89 ?_
 refine zQ ?_
 refine du ((ay (ay (ay (ay G (nx + 1) (.box (0 + 0 + 0) [lst p.text, lst p.firsts, lst p.seconds, lst p.pages, .list (((p.pages.take 0).map fun x => (fh p.text x : Int)).map cells) (.tip (nx + 1 + 1)), .list (((p.pages.take 0).map (et p.text)).map cells) (.tip (nx + 1 + 1 + 1)), .list (((p.pages.take 0).map (eb p.text)).map cells) (.tip (nx + 1 + 1 + 1 + 1))])) (nx + 1 + 1) (.tip ((p.pages.take 0).map fun x => (fh p.text x : Int)).length 3 1)) (nx + 1 + 1 + 1) (.tip ((p.pages.take 0).map (et p.text)).length 36 1)) (nx + 1 + 1 + 1 + 1) (.tip ((p.pages.take 0).map (eb p.text)).length 36 1))) zX ?_
 dsimp only
 refine dz (X := Nat) (fun j => j ≤ p.pages.length ∧ ql p j = true) (fun j => p.pages.length - j) (fun j => [(13, .v (.int .i64 (iu p.pages j))), (16, .any), (18, .any), (19, .any), (20, .any), (21, .any), (22, .any), (88, .v (.int .i64 (j : Int)))]) (fun j G' => (ay (ay (ay (ay G (nx + 1) (.box (j + j + j) [lst p.text, lst p.firsts, lst p.seconds, lst p.pages, .list (((p.pages.take j).map fun x => (fh p.text x : Int)).map cells) (.tip (nx + 1 + 1)), .list (((p.pages.take j).map (et p.text)).map cells) (.tip (nx + 1 + 1 + 1)), .list (((p.pages.take j).map (eb p.text)).map cells) (.tip (nx + 1 + 1 + 1 + 1))])) (nx + 1 + 1) (.tip ((p.pages.take j).map fun x => (fh p.text x : Int)).length 3 1)) (nx + 1 + 1 + 1) (.tip ((p.pages.take j).map (et p.text)).length 36 1)) (nx + 1 + 1 + 1 + 1) (.tip ((p.pages.take j).map (eb p.text)).length 36 1))) 0 rfl ?_ ?_ ?_ ?_ ?_ ?_
 ·exact ⟨Nat.zero_le _, rfl⟩
 ·exact zF
 ·exact zX
 ·rintro j hI
  exact (by (try dsimp only); repeat' (first | exact trivial | refine ⟨?_, ?_⟩ | exact .v | exact .any | refine .elem ?_ | exact co _ _ | exact f8 _ _ | exact ey _ _ | exact ge _ (by (try dsimp only); omega) | exact .box (by (try dsimp only); omega) | exact fp | exact dj | exact i0 (jz _ _) | refine gj ?_ ?_ | exact .arr (by (try dsimp only); omega) | exact .own (by (try dsimp only); omega) | exact .map (by (try dsimp only); omega) | exact ff _ | refine ct ?_ ?_ | exact co _ _))
 ·rintro j hI
  exact (by (repeat' (refine lu ?_ (by (try dsimp only); omega) ?_)); all_goals (first | exact ly zS | (repeat' (first | exact trivial | refine ⟨?_, ?_⟩ | exact .v | exact .any | refine .elem ?_ | exact co _ _ | exact f8 _ _ | exact ey _ _ | exact ge _ (by (try dsimp only); omega) | exact .box (by (try dsimp only); omega) | exact fp | exact dj | exact i0 (jz _ _) | refine gj ?_ ?_ | exact .arr (by (try dsimp only); omega) | exact .own (by (try dsimp only); omega) | exact .map (by (try dsimp only); omega) | exact ff _ | refine ct ?_ ?_ | exact co _ _))))
 rintro j hK
 dsimp only at hK ⊢
 refine yS fun _ K34 => ?_
 refine yR ?_
 refine aa rfl (c5 rfl rfl rfl) ?_
 refine yN ?_
 dsimp only [St.put]
 refine K34 _ ?_
 refine yS fun _ K35 => ?_
 refine bd rfl (fun hc => ?_) (fun hc => ?_)
 ·replace hc := of_decide_eq_true hc
  obtain ⟨x, hx⟩ : ∃ x, p.pages[j]? = some x := d8 (by omega)
  refine bi ?_
  refine K35 _ ?_
  refine yS fun _ K36 => ?_
  refine cb ?_
  refine yS fun _ K37 => ?_
  refine yR ?_
  refine aa rfl (bk rfl rfl rfl rfl (bu (by assumption)) (Enc.len _)) ?_
  refine yE rfl rfl rfl ?_
  try dsimp only [St.put]
  refine af rfl (dt rfl ?_)
  try dsimp only [St.put]
  refine af rfl (da rfl rfl rfl zG rfl rfl (by rfl) ?_)
  refine yN ?_
  dsimp only [St.put]
  refine K37 _ ?_
  refine gl (i := 16) rfl zG zC ?_
  dsimp only
  refine dh 89 ?_
  refine zQ ?_
  refine l5 (X := Bool) (fun d0 => d0 = qk p (iu p.pages j) x) (fun d0 => [(14, .v (.bool d0))]) (fun d0 G' => G') rfl ?_ (fun _ _ _ _ h => .inl h) ?_ ?_
  ·rintro d0 hI
   exact (by (try dsimp only); repeat' (first | exact trivial | refine ⟨?_, ?_⟩ | exact .v | exact .any | refine .elem ?_ | exact co _ _ | exact f8 _ _ | exact ey _ _ | exact ge _ (by (try dsimp only); omega) | exact .box (by (try dsimp only); omega) | exact fp | exact dj | exact i0 (jz _ _) | refine gj ?_ ?_ | exact .arr (by (try dsimp only); omega) | exact .own (by (try dsimp only); omega) | exact .map (by (try dsimp only); omega) | exact ff _ | refine ct ?_ ?_ | exact co _ _))
  ·refine yR ?_
   refine yF rfl rfl rfl rfl ?_
   refine yL rfl rfl rfl ?_
   refine yM rfl rfl ?_
   refine aa rfl (im rfl rfl rfl) ?_
   refine yM rfl rfl ?_
   refine er (fun hs => ?_) (fun hs => ?_)
   ·have z1 : iu p.pages j < x.fr := of_decide_eq_true hs
    refine yF rfl rfl rfl rfl ?_
    refine yL rfl rfl rfl ?_
    refine yF rfl rfl rfl rfl ?_
    refine yL rfl rfl rfl ?_
    refine aa rfl (ug rfl rfl rfl) ?_
    refine aa rfl (cn rfl rfl (by constructor)) ?_
    refine yM rfl rfl ?_
    refine er (fun hs => ?_) (fun hs => ?_)
    ·have z2 : x.fr ≤ x.to := of_decide_eq_true hs
     refine yF rfl rfl rfl rfl ?_
     refine yL rfl rfl rfl ?_
     refine yM rfl rfl ?_
     refine aa rfl (c5 rfl rfl rfl) ?_
     refine aa rfl (cn rfl rfl (by constructor)) ?_
     refine yA rfl rfl ?_
     refine yN ?_
     dsimp only [St.put]
     refine ⟨_, ?_, ⟨⟨rfl, rfl⟩, zF, zB, zN, zX⟩⟩
     unfold qk
     first
     | (simp [z1]; done)
     | (simp [z1, z2]; done)
     | (simp [z1]; omega)
    have z2 : ¬ x.fr ≤ x.to := of_decide_eq_false hs
    refine yK rfl ?_
    refine yK rfl ?_
    refine yK rfl ?_
    refine yK rfl ?_
    refine aa rfl (cv rfl rfl (by constructor)) ?_
    refine yA rfl rfl ?_
    refine yN ?_
    dsimp only [St.put]
    refine ⟨_, ?_, ⟨⟨rfl, rfl⟩, zF, zB, zN, zX⟩⟩
    unfold qk
    first
    | (simp [z1]; done)
    | (simp [z1, z2]; done)
    | (simp [z1]; omega)
   have z1 : ¬ iu p.pages j < x.fr := of_decide_eq_false hs
   refine yK rfl ?_
   refine yK rfl ?_
   refine yK rfl ?_
   refine yK rfl ?_
   refine yK rfl ?_
   refine aa rfl (cv rfl rfl (by constructor)) ?_
   refine yM rfl rfl ?_
   refine yK rfl ?_
   refine yK rfl ?_
   refine yK rfl ?_
   refine yK rfl ?_
   refine aa rfl (cv rfl rfl (by constructor)) ?_
   refine yA rfl rfl ?_
   refine yN ?_
   dsimp only [St.put]
   refine ⟨_, ?_, ⟨⟨rfl, rfl⟩, zF, zB, zN, zX⟩⟩
   unfold qk
   first
   | (simp [z1]; done)
   | (simp [z1, z2]; done)
   | (simp [z1]; omega)
  rintro d0 hst0
  dsimp only at hst0 ⊢
  subst hst0
  refine yS fun _ K39 => ?_
  refine yS fun _ K40 => ?_
  refine yR ?_
  try dsimp only [St.put]
  refine ae rfl (cd (n := 6) (m := n) rfl rfl zG rfl) ?_
  refine yM rfl rfl ?_
  refine yN ?_
  dsimp only [St.put]
  refine K40 _ ?_
  refine cb ?_
  refine dh 111 ?_
  refine zQ ?_
  refine du ((ay (ay (ay (ay G (nx + 1) (.box (j + j + j) [lst p.text, lst p.firsts, lst p.seconds, lst p.pages, .list (((p.pages.take j).map fun x => (fh p.text x : Int)).map cells) (.tip (nx + 1 + 1)), .list (((p.pages.take j).map (et p.text)).map cells) (.tip (nx + 1 + 1 + 1)), .list (((p.pages.take j).map (eb p.text)).map cells) (.tip (nx + 1 + 1 + 1 + 1))])) (nx + 1 + 1) (.tip ((p.pages.take j).map fun x => (fh p.text x : Int)).length 3 1)) (nx + 1 + 1 + 1) (.tip ((p.pages.take j).map (et p.text)).length 36 1)) (nx + 1 + 1 + 1 + 1) (.tip ((p.pages.take j).map (eb p.text)).length 36 1))) zX ?_
  dsimp only
  refine dz (X := Nat) (fun k => k ≤ 2) (fun k => 2 - k) (fun k => [(14, .v (.bool (pf p (iu p.pages j) x k))), (18, .any), (19, .any), (20, .any), (21, .any), (22, .any), (110, .v (.int .i64 (k : Int)))]) (fun k G' => G') 0 rfl ?_ ?_ (fun _ _ h => h) ?_ ?_ ?_
  ·exact Nat.zero_le _
  ·exact zF
  ·rintro k hI
   exact (by (try dsimp only); repeat' (first | exact trivial | refine ⟨?_, ?_⟩ | exact .v | exact .any | refine .elem ?_ | exact co _ _ | exact f8 _ _ | exact ey _ _ | exact ge _ (by (try dsimp only); omega) | exact .box (by (try dsimp only); omega) | exact fp | exact dj | exact i0 (jz _ _) | refine gj ?_ ?_ | exact .arr (by (try dsimp only); omega) | exact .own (by (try dsimp only); omega) | exact .map (by (try dsimp only); omega) | exact ff _ | refine ct ?_ ?_ | exact co _ _))
  ·exact fun _ _ _ _ h => .inl h
  rintro k hS
  dsimp only at hS ⊢
  refine yS fun _ K41 => ?_
  refine yR ?_
  refine aa rfl (c5 rfl rfl rfl) ?_
  refine yN ?_
  dsimp only [St.put]
  refine K41 _ ?_
  refine yS fun _ K42 => ?_
  refine bd rfl (fun hc => ?_) (fun hc => ?_)
  ·replace hc := of_decide_eq_true hc
   have hk2 : k < 2 := by omega
   have hslk := hsl (decide (k = 1))
   refine bi ?_
   refine K42 _ ?_
   refine yS fun _ K43 => ?_
   refine cb ?_
   refine yS fun _ K44 => ?_
   refine yR ?_
   refine aa rfl (w8 (k := k) (m := 2) (sz := 3) rfl rfl rfl rfl hk2 (wa hk2)) ?_
   try dsimp only [St.put]
   refine af rfl (dt rfl ?_)
   try dsimp only [St.put]
   refine af rfl (da rfl rfl rfl zG rfl rfl (by rfl) ?_)
   refine yN ?_
   dsimp only [St.put]
   refine K44 _ ?_
   refine gl (i := 18) rfl zG zC ?_
   dsimp only
   refine dh 111 ?_
   refine zQ ?_
   refine l5 (X := Unit) (fun _ => True) (fun _ => [(19, .v (.int .i64 (fy (decide (k = 1)) x))), (20, lst (dp (decide (k = 1)) x))]) (fun _ G' => G') rfl ?_ (fun _ _ _ _ h => .inl h) ?_ ?_
   ·rintro _ hI
    exact (by (try dsimp only); repeat' (first | exact trivial | refine ⟨?_, ?_⟩ | exact .v | exact .any | refine .elem ?_ | exact co _ _ | exact f8 _ _ | exact ey _ _ | exact ge _ (by (try dsimp only); omega) | exact .box (by (try dsimp only); omega) | exact fp | exact dj | exact i0 (jz _ _) | refine gj ?_ ?_ | exact .arr (by (try dsimp only); omega) | exact .own (by (try dsimp only); omega) | exact .map (by (try dsimp only); omega) | exact ff _ | refine ct ?_ ?_ | exact co _ _))
   ·refine g8 [(0, none), (1, none), (2, none), (4, none), (5, none), (6, none), (3, none), (7, none), (8, none), (9, none)] (fun i => [7].contains i) (fun i => [3, 7].contains i) (fun i => [0, 4, 8, 9].contains i) [] (by kernel_rfl) (by kernel_rfl) ?_
    refine ah rfl rfl rfl rfl (br rfl rfl rfl) ?_
    try dsimp only [St.put]
    refine ai rfl rfl rfl rfl (bh rfl rfl) ?_
    try dsimp only [St.put]
    refine ai rfl rfl rfl rfl (aq rfl rfl (Enc.len _)) ?_
    refine ah rfl rfl rfl rfl (br rfl rfl rfl) ?_
    try dsimp only [St.put]
    refine ai rfl rfl rfl rfl (bh rfl rfl) ?_
    try dsimp only [St.put]
    refine ai rfl rfl rfl rfl (aq rfl rfl (Enc.len _)) ?_
    refine j4 ?_
    try dsimp only [St.put]
    refine lg rfl rfl rfl (bl rfl rfl rfl (zb (decide (k = 1)) x) ⟨zD, ?_⟩)
    try dsimp only [St.put]
    refine gg rfl rfl rfl rfl (bl rfl rfl rfl (ucg (decide (k = 1)) x) ?_)
    refine eo rfl rfl rfl rfl (bf rfl (by constructor)) ?_
    refine eo rfl rfl rfl rfl (bf rfl (by constructor)) ?_
    refine j3 ?_
    dsimp only [St.put]
    exact ⟨(), trivial, ⟨⟨rfl, rfl⟩, zF, zB, zN, zX⟩⟩
   rintro _ h31
   dsimp only at h31 ⊢
   refine dh 111 ?_
   refine zQ ?_
   refine l5 (X := Bool) (fun d => d = (pf p (iu p.pages j) x k && (inB (fy (decide (k = 1)) x) (-1) (((ec p (decide (k = 1))).length : Int) - 1) && (decide (0 ≤ fy (decide (k = 1)) x) || decide (dp (decide (k = 1)) x = []))))) (fun d => [(14, .v (.bool d))]) (fun d G' => G') rfl ?_ (fun _ _ _ _ h => .inl h) ?_ ?_
   ·rintro d hI
    exact (by (try dsimp only); repeat' (first | exact trivial | refine ⟨?_, ?_⟩ | exact .v | exact .any | refine .elem ?_ | exact co _ _ | exact f8 _ _ | exact ey _ _ | exact ge _ (by (try dsimp only); omega) | exact .box (by (try dsimp only); omega) | exact fp | exact dj | exact i0 (jz _ _) | refine gj ?_ ?_ | exact .arr (by (try dsimp only); omega) | exact .own (by (try dsimp only); omega) | exact .map (by (try dsimp only); omega) | exact ff _ | refine ct ?_ ?_ | exact co _ _))
   ·refine yR ?_
    refine yM rfl rfl ?_
    refine yM rfl rfl ?_
    refine er (fun hs => ?_) (fun hs => ?_)
    ·have s0 : pf p (iu p.pages j) x k = true := hs
     refine yF rfl rfl rfl rfl ?_
     refine yL rfl rfl rfl ?_
     refine yE rfl rfl rfl ?_
     try dsimp only [St.put]
     refine af rfl (bl rfl rfl rfl (pg (decide (k = 1)) p) ?_)
     refine aa rfl (bj rfl rfl (List.length_map _)) ?_
     refine aa rfl (ir rfl rfl rfl (by omega)) ?_
     refine yM rfl rfl ?_
     try dsimp only [St.put]
     refine af rfl (el rfl rfl rfl (by decide) (by decide) zR (by decide) ?_)
     try dsimp only [St.put]
     refine af rfl (bl rfl rfl rfl (nk _ _ [_]) ?_)
     refine aa rfl (cn rfl rfl (by constructor)) ?_
     refine yM rfl rfl ?_
     refine er (fun hs => ?_) (fun hs => ?_)
     ·have s1 : inB (fy (decide (k = 1)) x) (-1) (((ec p (decide (k = 1))).length : Int) - 1) = true := by rw [gu] at hs; exact hs
      refine yM rfl rfl ?_
      refine aa rfl (kx rfl rfl rfl) ?_
      refine yM rfl rfl ?_
      refine er (fun hs => ?_) (fun hs => ?_)
      ·have s2 : 0 ≤ fy (decide (k = 1)) x := of_decide_eq_true hs
       refine yK rfl ?_
       refine yK rfl ?_
       refine yK rfl ?_
       refine aa rfl (cn rfl rfl (by constructor)) ?_
       refine aa rfl (cn rfl rfl (by constructor)) ?_
       refine yA rfl rfl ?_
       refine yN ?_
       dsimp only [St.put]
       refine ⟨_, ?_, ⟨⟨rfl, rfl⟩, zF, zB, zN, zX⟩⟩
       first
       | (rw [s0]; simp; done)
       | (rw [s0, s1]; simp; done)
       | (rw [s0, s1, decide_eq_true s2]; simp; done)
       | (rw [s0, s1, decide_eq_false s2, Bool.true_and, Bool.true_and, Bool.false_or, decide_eq_decide]; exact nil_len.symm)
      have s2 : ¬ 0 ≤ fy (decide (k = 1)) x := of_decide_eq_false hs
      refine yM rfl rfl ?_
      refine aa rfl (bj rfl rfl (List.length_map _)) ?_
      refine aa rfl (f3 rfl rfl rfl) ?_
      refine aa rfl (cv rfl rfl (by constructor)) ?_
      refine aa rfl (cn rfl rfl (by constructor)) ?_
      refine yA rfl rfl ?_
      refine yN ?_
      dsimp only [St.put]
      refine ⟨_, ?_, ⟨⟨rfl, rfl⟩, zF, zB, zN, zX⟩⟩
      first
      | (rw [s0]; simp; done)
      | (rw [s0, s1]; simp; done)
      | (rw [s0, s1, decide_eq_true s2]; simp; done)
      | (rw [s0, s1, decide_eq_false s2, Bool.true_and, Bool.true_and, Bool.false_or, decide_eq_decide]; exact nil_len.symm)
     have s1 : inB (fy (decide (k = 1)) x) (-1) (((ec p (decide (k = 1))).length : Int) - 1) = false := by rw [gu] at hs; exact hs
     refine yK rfl ?_
     refine yK rfl ?_
     refine yK rfl ?_
     refine yK rfl ?_
     refine yK rfl ?_
     refine yK rfl ?_
     refine yK rfl ?_
     refine aa rfl (cv rfl rfl (by constructor)) ?_
     refine yA rfl rfl ?_
     refine yN ?_
     dsimp only [St.put]
     refine ⟨_, ?_, ⟨⟨rfl, rfl⟩, zF, zB, zN, zX⟩⟩
     first
     | (rw [s0]; simp; done)
     | (rw [s0, s1]; simp; done)
     | (rw [s0, s1, decide_eq_true s2]; simp; done)
     | (rw [s0, s1, decide_eq_false s2, Bool.true_and, Bool.true_and, Bool.false_or, decide_eq_decide]; exact nil_len.symm)
    have s0 : pf p (iu p.pages j) x k = false := hs
    refine yK rfl ?_
    refine yK rfl ?_
    refine yK rfl ?_
    refine yK rfl ?_
    refine yK rfl ?_
    refine yK rfl ?_
    refine yK rfl ?_
    refine yK rfl ?_
    refine yK rfl ?_
    refine aa rfl (cv rfl rfl (by constructor)) ?_
    refine yM rfl rfl ?_
    refine yK rfl ?_
    refine yK rfl ?_
    refine yK rfl ?_
    refine yK rfl ?_
    refine yK rfl ?_
    refine yK rfl ?_
    refine yK rfl ?_
    refine aa rfl (cv rfl rfl (by constructor)) ?_
    refine yA rfl rfl ?_
    refine yN ?_
    dsimp only [St.put]
    refine ⟨_, ?_, ⟨⟨rfl, rfl⟩, zF, zB, zN, zX⟩⟩
    first
    | (rw [s0]; simp; done)
    | (rw [s0, s1]; simp; done)
    | (rw [s0, s1, decide_eq_true s2]; simp; done)
    | (rw [s0, s1, decide_eq_false s2, Bool.true_and, Bool.true_and, Bool.false_or, decide_eq_decide]; exact nil_len.symm)
   rintro d hd
   dsimp only at hd ⊢
   refine yS fun _ K47 => ?_
   refine lf 20 (fun hfit => ?_)
   have hfll := (fit_lst.1 hfit).1
   rw [show (C.v (.bool d)) = .v (.bool (d && d7 p.text x (dp (decide (k = 1)) x) 0)) by simp [d7]]
   refine yR ?_
   refine yM rfl rfl ?_
   refine aa rfl (bj rfl rfl (List.length_map _)) ?_
   refine yM rfl rfl ?_
   refine yN ?_
   dsimp only [St.put]
   refine K47 _ ?_
   refine cb ?_
   refine dh 145 ?_
   refine zQ ?_
   refine du ((ay (ay (ay (ay G (nx + 1) (.box (j + j + j) [lst p.text, lst p.firsts, lst p.seconds, lst p.pages, .list (((p.pages.take j).map fun x => (fh p.text x : Int)).map cells) (.tip (nx + 1 + 1)), .list (((p.pages.take j).map (et p.text)).map cells) (.tip (nx + 1 + 1 + 1)), .list (((p.pages.take j).map (eb p.text)).map cells) (.tip (nx + 1 + 1 + 1 + 1))])) (nx + 1 + 1) (.tip ((p.pages.take j).map fun x => (fh p.text x : Int)).length 3 1)) (nx + 1 + 1 + 1) (.tip ((p.pages.take j).map (et p.text)).length 36 1)) (nx + 1 + 1 + 1 + 1) (.tip ((p.pages.take j).map (eb p.text)).length 36 1))) zX ?_
   dsimp only
   refine dz (X := Nat) (fun i => i ≤ (dp (decide (k = 1)) x).length) (fun i => (dp (decide (k = 1)) x).length - i) (fun i => [(14, .v (.bool (d && d7 p.text x (dp (decide (k = 1)) x) i))), (21, .any), (22, .any), (144, .v (.int .i64 (i : Int)))]) (fun i G' => G') 0 rfl ?_ ?_ (fun _ _ h => h) ?_ ?_ ?_
   ·exact Nat.zero_le _
   ·exact zF
   ·rintro i hI
    exact (by (try dsimp only); repeat' (first | exact trivial | refine ⟨?_, ?_⟩ | exact .v | exact .any | refine .elem ?_ | exact co _ _ | exact f8 _ _ | exact ey _ _ | exact ge _ (by (try dsimp only); omega) | exact .box (by (try dsimp only); omega) | exact fp | exact dj | exact i0 (jz _ _) | refine gj ?_ ?_ | exact .arr (by (try dsimp only); omega) | exact .own (by (try dsimp only); omega) | exact .map (by (try dsimp only); omega) | exact ff _ | refine ct ?_ ?_ | exact co _ _))
   ·exact fun _ _ _ _ h => .inl h
   rintro i hT
   dsimp only at hT ⊢
   refine yS fun _ K48 => ?_
   refine yR ?_
   refine aa rfl (c5 rfl rfl rfl) ?_
   refine yN ?_
   dsimp only [St.put]
   refine K48 _ ?_
   refine yS fun _ K49 => ?_
   refine bd rfl (fun hc => ?_) (fun hc => ?_)
   ·replace hc := of_decide_eq_true hc
    obtain ⟨q, hq⟩ : ∃ q, (dp (decide (k = 1)) x)[i]? = some q := d8 (by omega)
    refine bi ?_
    refine K49 _ ?_
    refine yS fun _ K50 => ?_
    refine cb ?_
    refine yS fun _ K51 => ?_
    refine yR ?_
    refine yM rfl rfl ?_
    refine aa rfl (bk rfl rfl rfl rfl (bu (by assumption)) (Enc.len _)) ?_
    refine yE rfl rfl rfl ?_
    try dsimp only [St.put]
    refine af rfl (dt rfl ?_)
    refine yA rfl rfl ?_
    try dsimp only [St.put]
    refine af rfl (da rfl rfl rfl zG rfl rfl (by rfl) ?_)
    refine yN ?_
    dsimp only [St.put]
    refine K51 _ ?_
    refine gl (i := 22) rfl zG zC ?_
    dsimp only
    refine sk [(0, none), (1, none), (2, none), (3, none), (4, none)] (fun _ => false) (fun i => [0, 1, 2].contains i) 33 (rl [5, 33]) (by kernel_rfl) (by kernel_rfl) ?_
    refine xM rfl rfl rfl rfl rfl ?_
    refine xM rfl rfl rfl rfl rfl ?_
    refine j5 (fun hs => ?_) (fun hs => ?_)
    ·have w0 : (d && d7 p.text x (dp (decide (k = 1)) x) i) = true := hs
     refine ah rfl rfl rfl rfl (br rfl rfl rfl) ?_
     try dsimp only [St.put]
     refine ai rfl rfl rfl rfl (c := gp p.text) (jb (cs := cells p) rfl rfl (show 1 ≤ 4 by decide)) ?_
     try dsimp only [St.put]
     refine ai rfl rfl rfl rfl (aq rfl rfl (Enc.len _)) ?_
     refine cz ?_
     refine eg [5] (by kernel_rfl) (by simp) ?_
     refine ef ?_ ?_
     ·try dsimp only [St.put]
      refine i7 rfl rfl rfl (bl rfl rfl rfl (ukt p.text q ht) ?_)
      refine fb [(6, none), (7, none), (8, none), (9, none), (10, none), (11, none), (12, none), (13, none), (14, none), (15, none), (16, none), (17, none), (18, none), (19, none)] (fun i => [6, 7, 8, 10, 12, 13, 15, 17, 19].contains i) 18 (rl [20, 18]) (by kernel_rfl) ?_
      refine ah rfl rfl rfl rfl (cn rfl rfl (by constructor)) ?_
      refine xM rfl rfl rfl rfl rfl ?_
      refine j5 (fun hs => ?_) (fun hs => ?_)
      ·have w1 : f5 p.text q = true := hs
       obtain ⟨kq, nq, wq, cq, lq, hqe, hq1, hq2, hq3⟩ := ucy w1
       have hkl := (List.getElem?_eq_some_iff.1 hq1).1
       have hnl := (List.getElem?_eq_some_iff.1 hq2).1
       have hcl := (hl3 cq (g5 hq1)).2.1
       have hst := ub4 (t := p.text) (k := p.text.length) (i := kq) hkl
       have hsb := vz ht kq (by omega)
       have hqc : q.ch = (kq : Int) := by rw [hqe]
       have hql : q.ln = (nq : Int) := by rw [hqe]
       refine ah rfl rfl rfl rfl (br rfl rfl rfl) ?_
       try dsimp only [St.put]
       refine ai rfl rfl rfl rfl (bh rfl rfl) ?_
       refine ah rfl rfl rfl rfl (br rfl rfl rfl) ?_
       try dsimp only [St.put]
       refine ai rfl rfl rfl rfl (bh rfl rfl) ?_
       refine xM rfl rfl rfl rfl rfl ?_
       refine ah rfl rfl rfl rfl (br rfl rfl rfl) ?_
       try dsimp only [St.put]
       refine ai rfl rfl rfl rfl (bh rfl rfl) ?_
       try dsimp only [St.put]
       refine ah rfl rfl rfl rfl (bk rfl rfl rfl (by omega) (bu (by assumption)) (Enc.len _)) ?_
       try dsimp only [St.put]
       refine ai rfl rfl rfl rfl (bh rfl rfl) ?_
       refine ah rfl rfl rfl rfl (br rfl rfl rfl) ?_
       try dsimp only [St.put]
       refine ai rfl rfl rfl rfl (bh rfl rfl) ?_
       refine ah rfl rfl rfl rfl (cm rfl rfl rfl (by omega)) ?_
       refine cz ?_
       refine eg [20] (by kernel_rfl) (by simp) ?_
       refine ef ?_ ?_
       ·try dsimp only [St.put]
        refine i7 rfl rfl rfl (el rfl rfl rfl (by decide) (by decide) zR (by decide) ?_)
        refine eg [21] (by kernel_rfl) (by simp) ?_
        refine ef ?_ ?_
        ·try dsimp only [St.put]
         refine i7 rfl rfl rfl (bl rfl rfl rfl (nk _ _ [_]) ?_)
         refine fb [(22, none), (23, none), (24, none), (25, none), (26, none), (27, none), (28, none), (29, none), (30, none), (31, none), (32, none)] (fun i => [22, 23, 24, 25, 26, 27, 28, 29, 30].contains i) 5 (rl [33, 5]) (by kernel_rfl) ?_
         refine ah rfl rfl rfl rfl (cn rfl rfl (by constructor)) ?_
         refine xM rfl rfl rfl rfl rfl ?_
         refine j5 (fun hs => ?_) (fun hs => ?_)
         ·have w2 : em p.text x q = true := by
           rw [gu] at hs
           unfold em qp
           rw [hqc, Int.toNat_natCast, Int.add_comm]; exact hs
          refine xM rfl rfl rfl rfl rfl ?_
          refine ah rfl rfl rfl rfl (f3 rfl rfl rfl) ?_
          refine xM rfl rfl rfl rfl rfl ?_
          refine j5 (fun hs => ?_) (fun hs => ?_)
          ·have w3 : i = 0 := by have := of_decide_eq_true hs; omega
           refine am rfl rfl rfl ?_
           refine am rfl rfl rfl ?_
           refine am rfl rfl rfl ?_
           refine am rfl rfl rfl ?_
           refine am rfl rfl rfl ?_
           refine am rfl rfl rfl ?_
           refine cz ?_
           refine eg [33] (by kernel_rfl) (by simp) ?_
           refine ef ?_ ?_
           ·refine gm rfl rfl rfl ?_
            refine fb [(34, none), (35, none), (36, none), (37, none)] (fun i => [34, 35, 36, 37].contains i) 0 (rl [38]) (by kernel_rfl) ?_
            refine am rfl rfl rfl ?_
            refine ah rfl rfl rfl rfl (cn rfl rfl (by constructor)) ?_
            refine ah rfl rfl rfl rfl (cn rfl rfl (by constructor)) ?_
            refine ah rfl rfl rfl rfl (bf rfl (by constructor)) ?_
            refine cz ?_
            dsimp only [St.put]
            refine i3 (by kernel_rfl) ?_
            refine K50 _ ?_
            refine yR ?_
            refine aa rfl (cm rfl rfl rfl (by omega)) ?_
            refine yM rfl rfl ?_
            refine yN ?_
            dsimp only [St.put]
            refine ⟨i + 1, by omega, by omega, ?_⟩
            try dsimp only
            first
            | (rw [show (d && d7 p.text x (dp (decide (k = 1)) x) (i + 1)) = false by rw [ig, ← Bool.and_assoc, show (d && d7 p.text x (dp (decide (k = 1)) x) i) = false from w0, Bool.false_and]]
               exact ⟨⟨rfl, rfl⟩, zF, zB, zN, zX⟩)
            | (rw [show (d && d7 p.text x (dp (decide (k = 1)) x) (i + 1)) = false by rw [ig, je hq, show f5 p.text q = false from w1]; simp]
               exact ⟨⟨rfl, rfl⟩, zF, zB, zN, zX⟩)
            | (rw [show (d && d7 p.text x (dp (decide (k = 1)) x) (i + 1)) = false by rw [ig, je hq, show em p.text x q = false from w2]; simp]
               exact ⟨⟨rfl, rfl⟩, zF, zB, zN, zX⟩)
            | (rw [show (d && d7 p.text x (dp (decide (k = 1)) x) (i + 1)) = true by rw [ig, ← Bool.and_assoc, show (d && d7 p.text x (dp (decide (k = 1)) x) i) = true from w0, je hq, w1, w2, decide_eq_true (show i = 0 from w3)]; rfl]
               exact ⟨⟨rfl, rfl⟩, zF, zB, zN, zX⟩)
            | (rw [show (d && d7 p.text x (dp (decide (k = 1)) x) (i + 1)) = decide (l9 a q < 0) by rw [ig, ← Bool.and_assoc, show (d && d7 p.text x (dp (decide (k = 1)) x) i) = true from w0, je hq, w1, w2, decide_eq_false (show ¬ i = 0 from w3), ha]; rfl]
               exact ⟨⟨rfl, rfl⟩, zF, zB, zN, zX⟩)
           exact ed
          have w3 : ¬ i = 0 := by have := of_decide_eq_false hs; omega
          obtain ⟨a, ha⟩ : ∃ a, (dp (decide (k = 1)) x)[i - 1]? = some a := d8 (by omega)
          refine xM rfl rfl rfl rfl rfl ?_
          refine xM rfl rfl rfl rfl rfl ?_
          refine ah rfl rfl rfl rfl (ir rfl rfl rfl (by omega)) ?_
          try dsimp only [St.put]
          refine ah rfl rfl rfl rfl (bk (k := i - 1) rfl rfl rfl (by omega) (bu ha) (Enc.len _)) ?_
          try dsimp only [St.put]
          refine ai rfl rfl rfl rfl (aq rfl rfl (Enc.len _)) ?_
          try dsimp only [St.put]
          refine ai rfl rfl rfl rfl (aq rfl rfl (Enc.len _)) ?_
          refine cz ?_
          refine eg [33] (by kernel_rfl) (by simp) ?_
          refine ef ?_ ?_
          ·try dsimp only [St.put]
           refine i7 rfl rfl rfl (bl rfl rfl rfl (zm a q) ?_)
           refine fb [(34, none), (35, none), (36, none), (37, none)] (fun i => [34, 35, 36, 37].contains i) 0 (rl [38]) (by kernel_rfl) ?_
           refine ah rfl rfl rfl rfl (c5 rfl rfl rfl) ?_
           refine ah rfl rfl rfl rfl (cv rfl rfl (by constructor)) ?_
           refine ah rfl rfl rfl rfl (cn rfl rfl (by constructor)) ?_
           refine ah rfl rfl rfl rfl (bf rfl (by constructor)) ?_
           refine cz ?_
           dsimp only [St.put]
           refine i3 (by kernel_rfl) ?_
           refine K50 _ ?_
           refine yR ?_
           refine aa rfl (cm rfl rfl rfl (by omega)) ?_
           refine yM rfl rfl ?_
           refine yN ?_
           dsimp only [St.put]
           refine ⟨i + 1, by omega, by omega, ?_⟩
           try dsimp only
           first
           | (rw [show (d && d7 p.text x (dp (decide (k = 1)) x) (i + 1)) = false by rw [ig, ← Bool.and_assoc, show (d && d7 p.text x (dp (decide (k = 1)) x) i) = false from w0, Bool.false_and]]
              exact ⟨⟨rfl, rfl⟩, zF, zB, zN, zX⟩)
           | (rw [show (d && d7 p.text x (dp (decide (k = 1)) x) (i + 1)) = false by rw [ig, je hq, show f5 p.text q = false from w1]; simp]
              exact ⟨⟨rfl, rfl⟩, zF, zB, zN, zX⟩)
           | (rw [show (d && d7 p.text x (dp (decide (k = 1)) x) (i + 1)) = false by rw [ig, je hq, show em p.text x q = false from w2]; simp]
              exact ⟨⟨rfl, rfl⟩, zF, zB, zN, zX⟩)
           | (rw [show (d && d7 p.text x (dp (decide (k = 1)) x) (i + 1)) = true by rw [ig, ← Bool.and_assoc, show (d && d7 p.text x (dp (decide (k = 1)) x) i) = true from w0, je hq, w1, w2, decide_eq_true (show i = 0 from w3)]; rfl]
              exact ⟨⟨rfl, rfl⟩, zF, zB, zN, zX⟩)
           | (rw [show (d && d7 p.text x (dp (decide (k = 1)) x) (i + 1)) = decide (l9 a q < 0) by rw [ig, ← Bool.and_assoc, show (d && d7 p.text x (dp (decide (k = 1)) x) i) = true from w0, je hq, w1, w2, decide_eq_false (show ¬ i = 0 from w3), ha]; rfl]
              exact ⟨⟨rfl, rfl⟩, zF, zB, zN, zX⟩)
          exact ed
         have w2 : em p.text x q = false := by
          rw [gu] at hs
          unfold em qp
          rw [hqc, Int.toNat_natCast, Int.add_comm]; exact hs
         refine am rfl rfl rfl ?_
         refine am rfl rfl rfl ?_
         refine am rfl rfl rfl ?_
         refine am rfl rfl rfl ?_
         refine am rfl rfl rfl ?_
         refine am rfl rfl rfl ?_
         refine am rfl rfl rfl ?_
         refine am rfl rfl rfl ?_
         refine am rfl rfl rfl ?_
         refine cz ?_
         refine eg [33] (by kernel_rfl) (by simp) ?_
         refine ef ?_ ?_
         ·refine gm rfl rfl rfl ?_
          refine fb [(34, none), (35, none), (36, none), (37, none)] (fun i => [34, 35, 36, 37].contains i) 0 (rl [38]) (by kernel_rfl) ?_
          refine am rfl rfl rfl ?_
          refine am rfl rfl rfl ?_
          refine ah rfl rfl rfl rfl (cv rfl rfl (by constructor)) ?_
          refine ah rfl rfl rfl rfl (bf rfl (by constructor)) ?_
          refine cz ?_
          dsimp only [St.put]
          refine i3 (by kernel_rfl) ?_
          refine K50 _ ?_
          refine yR ?_
          refine aa rfl (cm rfl rfl rfl (by omega)) ?_
          refine yM rfl rfl ?_
          refine yN ?_
          dsimp only [St.put]
          refine ⟨i + 1, by omega, by omega, ?_⟩
          try dsimp only
          first
          | (rw [show (d && d7 p.text x (dp (decide (k = 1)) x) (i + 1)) = false by rw [ig, ← Bool.and_assoc, show (d && d7 p.text x (dp (decide (k = 1)) x) i) = false from w0, Bool.false_and]]
             exact ⟨⟨rfl, rfl⟩, zF, zB, zN, zX⟩)
          | (rw [show (d && d7 p.text x (dp (decide (k = 1)) x) (i + 1)) = false by rw [ig, je hq, show f5 p.text q = false from w1]; simp]
             exact ⟨⟨rfl, rfl⟩, zF, zB, zN, zX⟩)
          | (rw [show (d && d7 p.text x (dp (decide (k = 1)) x) (i + 1)) = false by rw [ig, je hq, show em p.text x q = false from w2]; simp]
             exact ⟨⟨rfl, rfl⟩, zF, zB, zN, zX⟩)
          | (rw [show (d && d7 p.text x (dp (decide (k = 1)) x) (i + 1)) = true by rw [ig, ← Bool.and_assoc, show (d && d7 p.text x (dp (decide (k = 1)) x) i) = true from w0, je hq, w1, w2, decide_eq_true (show i = 0 from w3)]; rfl]
             exact ⟨⟨rfl, rfl⟩, zF, zB, zN, zX⟩)
          | (rw [show (d && d7 p.text x (dp (decide (k = 1)) x) (i + 1)) = decide (l9 a q < 0) by rw [ig, ← Bool.and_assoc, show (d && d7 p.text x (dp (decide (k = 1)) x) i) = true from w0, je hq, w1, w2, decide_eq_false (show ¬ i = 0 from w3), ha]; rfl]
             exact ⟨⟨rfl, rfl⟩, zF, zB, zN, zX⟩)
         exact ed
        exact ed
       exact ed
      have w1 : f5 p.text q = false := hs
      refine am rfl rfl rfl ?_
      refine am rfl rfl rfl ?_
      refine am rfl rfl rfl ?_
      refine am rfl rfl rfl ?_
      refine am rfl rfl rfl ?_
      refine am rfl rfl rfl ?_
      refine am rfl rfl rfl ?_
      refine am rfl rfl rfl ?_
      refine am rfl rfl rfl ?_
      refine am rfl rfl rfl ?_
      refine am rfl rfl rfl ?_
      refine am rfl rfl rfl ?_
      refine cz ?_
      refine eg [20] (by kernel_rfl) (by simp) ?_
      refine ef ?_ ?_
      ·refine gm rfl rfl rfl ?_
       refine eg [21] (by kernel_rfl) (by simp) ?_
       refine ef ?_ ?_
       ·refine gm rfl rfl rfl ?_
        refine fb [(22, none), (23, none), (24, none), (25, none), (26, none), (27, none), (28, none), (29, none), (30, none), (31, none), (32, none)] (fun i => [22, 23, 24, 25, 26, 27, 28, 29, 30].contains i) 5 (rl [33, 5]) (by kernel_rfl) ?_
        refine ah rfl rfl rfl rfl (cv rfl rfl (by constructor)) ?_
        refine xM rfl rfl rfl rfl rfl ?_
        refine am rfl rfl rfl ?_
        refine am rfl rfl rfl ?_
        refine am rfl rfl rfl ?_
        refine am rfl rfl rfl ?_
        refine am rfl rfl rfl ?_
        refine am rfl rfl rfl ?_
        refine am rfl rfl rfl ?_
        refine am rfl rfl rfl ?_
        refine am rfl rfl rfl ?_
        refine cz ?_
        refine eg [33] (by kernel_rfl) (by simp) ?_
        refine ef ?_ ?_
        ·refine gm rfl rfl rfl ?_
         refine fb [(34, none), (35, none), (36, none), (37, none)] (fun i => [34, 35, 36, 37].contains i) 0 (rl [38]) (by kernel_rfl) ?_
         refine am rfl rfl rfl ?_
         refine am rfl rfl rfl ?_
         refine ah rfl rfl rfl rfl (cv rfl rfl (by constructor)) ?_
         refine ah rfl rfl rfl rfl (bf rfl (by constructor)) ?_
         refine cz ?_
         dsimp only [St.put]
         refine i3 (by kernel_rfl) ?_
         refine K50 _ ?_
         refine yR ?_
         refine aa rfl (cm rfl rfl rfl (by omega)) ?_
         refine yM rfl rfl ?_
         refine yN ?_
         dsimp only [St.put]
         refine ⟨i + 1, by omega, by omega, ?_⟩
         try dsimp only
         first
         | (rw [show (d && d7 p.text x (dp (decide (k = 1)) x) (i + 1)) = false by rw [ig, ← Bool.and_assoc, show (d && d7 p.text x (dp (decide (k = 1)) x) i) = false from w0, Bool.false_and]]
            exact ⟨⟨rfl, rfl⟩, zF, zB, zN, zX⟩)
         | (rw [show (d && d7 p.text x (dp (decide (k = 1)) x) (i + 1)) = false by rw [ig, je hq, show f5 p.text q = false from w1]; simp]
            exact ⟨⟨rfl, rfl⟩, zF, zB, zN, zX⟩)
         | (rw [show (d && d7 p.text x (dp (decide (k = 1)) x) (i + 1)) = false by rw [ig, je hq, show em p.text x q = false from w2]; simp]
            exact ⟨⟨rfl, rfl⟩, zF, zB, zN, zX⟩)
         | (rw [show (d && d7 p.text x (dp (decide (k = 1)) x) (i + 1)) = true by rw [ig, ← Bool.and_assoc, show (d && d7 p.text x (dp (decide (k = 1)) x) i) = true from w0, je hq, w1, w2, decide_eq_true (show i = 0 from w3)]; rfl]
            exact ⟨⟨rfl, rfl⟩, zF, zB, zN, zX⟩)
         | (rw [show (d && d7 p.text x (dp (decide (k = 1)) x) (i + 1)) = decide (l9 a q < 0) by rw [ig, ← Bool.and_assoc, show (d && d7 p.text x (dp (decide (k = 1)) x) i) = true from w0, je hq, w1, w2, decide_eq_false (show ¬ i = 0 from w3), ha]; rfl]
            exact ⟨⟨rfl, rfl⟩, zF, zB, zN, zX⟩)
        exact ed
       exact ed
      exact ed
     exact ed
    have w0 : (d && d7 p.text x (dp (decide (k = 1)) x) i) = false := hs
    refine am rfl rfl rfl ?_
    refine am rfl rfl rfl ?_
    refine am rfl rfl rfl ?_
    refine cz ?_
    refine eg [5] (by kernel_rfl) (by simp) ?_
    refine ef ?_ ?_
    ·refine gm rfl rfl rfl ?_
     refine fb [(6, none), (7, none), (8, none), (9, none), (10, none), (11, none), (12, none), (13, none), (14, none), (15, none), (16, none), (17, none), (18, none), (19, none)] (fun i => [6, 7, 8, 10, 12, 13, 15, 17, 19].contains i) 18 (rl [20, 18]) (by kernel_rfl) ?_
     refine ah rfl rfl rfl rfl (cv rfl rfl (by constructor)) ?_
     refine xM rfl rfl rfl rfl rfl ?_
     refine am rfl rfl rfl ?_
     refine am rfl rfl rfl ?_
     refine am rfl rfl rfl ?_
     refine am rfl rfl rfl ?_
     refine am rfl rfl rfl ?_
     refine am rfl rfl rfl ?_
     refine am rfl rfl rfl ?_
     refine am rfl rfl rfl ?_
     refine am rfl rfl rfl ?_
     refine am rfl rfl rfl ?_
     refine am rfl rfl rfl ?_
     refine am rfl rfl rfl ?_
     refine cz ?_
     refine eg [20] (by kernel_rfl) (by simp) ?_
     refine ef ?_ ?_
     ·refine gm rfl rfl rfl ?_
      refine eg [21] (by kernel_rfl) (by simp) ?_
      refine ef ?_ ?_
      ·refine gm rfl rfl rfl ?_
       refine fb [(22, none), (23, none), (24, none), (25, none), (26, none), (27, none), (28, none), (29, none), (30, none), (31, none), (32, none)] (fun i => [22, 23, 24, 25, 26, 27, 28, 29, 30].contains i) 5 (rl [33, 5]) (by kernel_rfl) ?_
       refine ah rfl rfl rfl rfl (cv rfl rfl (by constructor)) ?_
       refine xM rfl rfl rfl rfl rfl ?_
       refine am rfl rfl rfl ?_
       refine am rfl rfl rfl ?_
       refine am rfl rfl rfl ?_
       refine am rfl rfl rfl ?_
       refine am rfl rfl rfl ?_
       refine am rfl rfl rfl ?_
       refine am rfl rfl rfl ?_
       refine am rfl rfl rfl ?_
       refine am rfl rfl rfl ?_
       refine cz ?_
       refine eg [33] (by kernel_rfl) (by simp) ?_
       refine ef ?_ ?_
       ·refine gm rfl rfl rfl ?_
        refine fb [(34, none), (35, none), (36, none), (37, none)] (fun i => [34, 35, 36, 37].contains i) 0 (rl [38]) (by kernel_rfl) ?_
        refine am rfl rfl rfl ?_
        refine am rfl rfl rfl ?_
        refine ah rfl rfl rfl rfl (cv rfl rfl (by constructor)) ?_
        refine ah rfl rfl rfl rfl (bf rfl (by constructor)) ?_
        refine cz ?_
        dsimp only [St.put]
        refine i3 (by kernel_rfl) ?_
        refine K50 _ ?_
        refine yR ?_
        refine aa rfl (cm rfl rfl rfl (by omega)) ?_
        refine yM rfl rfl ?_
        refine yN ?_
        dsimp only [St.put]
        refine ⟨i + 1, by omega, by omega, ?_⟩
        try dsimp only
        first
        | (rw [show (d && d7 p.text x (dp (decide (k = 1)) x) (i + 1)) = false by rw [ig, ← Bool.and_assoc, show (d && d7 p.text x (dp (decide (k = 1)) x) i) = false from w0, Bool.false_and]]
           exact ⟨⟨rfl, rfl⟩, zF, zB, zN, zX⟩)
        | (rw [show (d && d7 p.text x (dp (decide (k = 1)) x) (i + 1)) = false by rw [ig, je hq, show f5 p.text q = false from w1]; simp]
           exact ⟨⟨rfl, rfl⟩, zF, zB, zN, zX⟩)
        | (rw [show (d && d7 p.text x (dp (decide (k = 1)) x) (i + 1)) = false by rw [ig, je hq, show em p.text x q = false from w2]; simp]
           exact ⟨⟨rfl, rfl⟩, zF, zB, zN, zX⟩)
        | (rw [show (d && d7 p.text x (dp (decide (k = 1)) x) (i + 1)) = true by rw [ig, ← Bool.and_assoc, show (d && d7 p.text x (dp (decide (k = 1)) x) i) = true from w0, je hq, w1, w2, decide_eq_true (show i = 0 from w3)]; rfl]
           exact ⟨⟨rfl, rfl⟩, zF, zB, zN, zX⟩)
        | (rw [show (d && d7 p.text x (dp (decide (k = 1)) x) (i + 1)) = decide (l9 a q < 0) by rw [ig, ← Bool.and_assoc, show (d && d7 p.text x (dp (decide (k = 1)) x) i) = true from w0, je hq, w1, w2, decide_eq_false (show ¬ i = 0 from w3), ha]; rfl]
           exact ⟨⟨rfl, rfl⟩, zF, zB, zN, zX⟩)
       exact ed
      exact ed
     exact ed
    exact ed
   replace hc := of_decide_eq_false hc
   obtain rfl : i = (dp (decide (k = 1)) x).length := by omega
   refine dq ?_
   refine K43 _ ?_
   refine yR ?_
   refine aa rfl (cm rfl rfl rfl (by omega)) ?_
   refine yM rfl rfl ?_
   refine yN ?_
   dsimp only [St.put]
   rw [show (d && d7 p.text x (dp (decide (k = 1)) x) (dp (decide (k = 1)) x).length) = pf p (iu p.pages j) x (k + 1) by rw [hd]; simp only [pf, tp, io, Bool.and_assoc]]
   exact ⟨k + 1, by omega, by omega, ⟨⟨rfl, rfl⟩, zF, zB, zN, zX⟩⟩
  replace hc := of_decide_eq_false hc
  obtain rfl : k = 2 := by omega
  rw [uiw]
  refine dq ?_
  refine K39 _ ?_
  refine yS fun _ K52 => ?_
  refine yS fun _ K53 => ?_
  refine yR ?_
  refine yM rfl rfl ?_
  refine aa rfl (ei rfl rfl) ?_
  refine yN ?_
  dsimp only [St.put]
  refine K53 _ ?_
  refine bd rfl (fun hc => ?_) (fun hc => ?_)
  ·have hpg : l8 p (iu p.pages j) x = false := by simpa using hc
   have hE : dg p = 90 := x5 ht (wo hx hpg)
   rw [hpg]
   refine dq ?_
   refine K32 _ ?_
   refine yS fun _ K54 => ?_
   refine yS fun _ K55 => ?_
   refine yR ?_
   refine yM rfl rfl ?_
   refine aa rfl (ei rfl rfl) ?_
   refine yN ?_
   dsimp only [St.put]
   refine K55 _ ?_
   refine bd rfl (fun _ => ?_) (fun h => by cases h)
   refine yS fun _ K56 => ?_
   refine yR ?_
   refine yA rfl rfl ?_
   refine yA rfl rfl ?_
   refine yN ?_
   dsimp only [St.put]
   refine K56 _ ?_
   refine bc ?_
   refine jk rfl (by constructor) (by constructor) zN zS ?_ ?_
   ·rw [ub (by rw [hE]; decide)]
   rw [hE]
  have hpg : l8 p (iu p.pages j) x = true := by simpa using hc
  have hpo := pageB_true.1 hpg
  rw [hpg]
  refine bi ?_
  refine K52 _ ?_
  refine yS fun _ K57 => ?_
  refine yR ?_
  refine yF rfl rfl rfl rfl ?_
  refine yL rfl rfl rfl ?_
  refine yA rfl rfl ?_
  refine yN ?_
  dsimp only [St.put]
  refine K57 _ ?_
  refine yR ?_
  refine yM rfl rfl ?_
  refine yE rfl rfl rfl ?_
  refine yM rfl rfl ?_
  try dsimp only [St.put]
  refine af rfl (ve rfl rfl rfl (ups p (iu p.pages j) x ((p.pages.take j).map fun x => (fh p.text x : Int)) ((p.pages.take j).map (et p.text)) ((p.pages.take j).map (eb p.text)) (nx + 1) (nx + 1 + 1) (nx + 1 + 1 + 1) (nx + 1 + 1 + 1 + 1) (j + j + j) ht hpo (by rw [List.length_map, List.length_take]; omega) (by rw [List.length_map, List.length_take]; omega) (by rw [List.length_map, List.length_take]; omega) _ _ (by dsimp only [St.put]; omega) (by dsimp only [St.put]; omega) (by dsimp only [St.put]; omega) (by dsimp only [St.put]; omega) (by omega) (by omega) (by omega) (by omega) (by omega) (by omega) zG zG zG zG) ?_)
  refine yN ?_
  dsimp only [St.put]
  refine K36 _ ?_
  refine yR ?_
  refine aa rfl (cm rfl rfl rfl (by omega)) ?_
  refine yM rfl rfl ?_
  refine yN ?_
  dsimp only [St.put]
  rw [show j + j + j + 1 + 1 + 1 = (j + 1) + (j + 1) + (j + 1) by omega, ← pn (f := fun x => (fh p.text x : Int)) hx, ← pn (f := et p.text) hx, ← pn (f := eb p.text) hx, ← uek hx]
  exact ⟨j + 1, by omega, ⟨by omega, by rw [uc3, hK.2, zk hx, hpg]; rfl⟩, ⟨⟨rfl, rfl⟩, zF, zB, zN, zX⟩⟩
 replace hc := of_decide_eq_false hc
 obtain rfl : j = p.pages.length := by omega
 rw [List.take_length]
 have hE : dg p = 0 := uok ht (by unfold gk; rw [hRB, decide_eq_true hnp, hK.2]; rfl)
 refine dq ?_
 refine K32 _ ?_
 refine yS fun _ K58 => ?_
 refine yS fun _ K59 => ?_
 refine yR ?_
 refine yM rfl rfl ?_
 refine aa rfl (ei rfl rfl) ?_
 refine yN ?_
 dsimp only [St.put]
 refine K59 _ ?_
 refine bd rfl (fun h => by cases h) (fun _ => ?_)
 refine bi ?_
 refine K58 _ ?_
 refine yS fun _ K60 => ?_
 refine ubb (nx + 1) _ [lst p.text, lst p.firsts, lst p.seconds, lst p.pages, lst (p.pages.map fun x => (fh p.text x : Int)), lst (p.pages.map (et p.text)), lst (p.pages.map (eb p.text))] zG zW ?_
 refine gl (i := 12) rfl zG (by simp) ?_
 dsimp only
 refine yR ?_
 refine yM rfl rfl ?_
 refine yA rfl rfl ?_
 refine yA rfl rfl ?_
 refine yN ?_
 dsimp only [St.put]
 refine K60 _ ?_
 refine bc ?_
 refine jk rfl (by constructor) (by constructor) zN zS ?_ ?_
 ·rw [wz hE]
 rw [hE]
end Go.Proofs.YtgffhbbcpgdjjaaGreatDoor
namespace Go.AB
open Go Go.RowKit

theorem EvR.trans {E1 E2 E3 : Env} {w1 w2 w3 : World} (h : EvR E1 w1 E2 w2) (k : EvR E2 w2 E3 w3) : EvR E1 w1 E3 w3 :=
 ⟨k.B.trans h.B, fun b => Nat.le_trans (h.L b) (k.L b), fun b i hi => (k.cell b i (Nat.lt_of_lt_of_le hi (h.L b))).trans (h.cell b i hi), Nat.le_trans h.nx k.nx, fun n hn v3 x3 y3 h3 => by
  obtain ⟨v2, x2, y2, h2, q1, q2⟩ := k.T n (Nat.lt_of_lt_of_le hn h.nx) _ _ _ h3
  obtain ⟨v1, x1, y1, h1, q3, q4⟩ := h.T n hn _ _ _ h2
  exact ⟨v1, x1, y1, h1, Nat.le_trans q3 q1, fun e => (q4 (by omega)).trans (q2 (by omega))⟩⟩
theorem EvR.drop {E E' : Env} {w w' : World} (h : EvR E w E' w') {m : Nat} (hm : E.nx ≤ m) : EvR E w (E'.drop m) w' :=
 ⟨h.B, h.L, h.cell, hm, fun n hn v x y ht => h.T n hn v x y (by
  simp only [Env.drop] at ht
  split at ht
  ·exact ht
  ·cases ht)⟩
theorem EvR.same {E : Env} {w w' : World} (hc : ∀ b i, i < E.L b → w'.cell? ⟨b, i, none⟩ = w.cell? ⟨b, i, none⟩) : EvR E w E w' :=
 ⟨rfl, fun _ => Nat.le_refl _, hc, Nat.le_refl _, fun _ _ v x y ht => ⟨v, x, y, ht, Nat.le_refl _, fun _ => rfl⟩⟩

/-- An iterator at work: what is owned when so many things have come; how many there are; what they are. -/
structure FC where
 G : Nat → Nat → Option GObj
 nx : Nat
 J : Nat → Env → World → Prop
 N : Nat
 l : Nat
 cl : Nat → List C
def FC.st (I : FC) (st : St) (k : Nat) : St := { st with G := I.G k, nx := I.nx, df := 0 }
structure FC.Ok (P : Program) (I : FC) : Prop where
 sim : ∀ {k E W}, I.J k E W → SimG E W (I.G k) I.nx
 F : ∀ {k E W}, I.J k E W → E.F ≤ W.heap.size
 ev : ∀ {k E W E' W'}, I.J k E W → Ev E W E' W' → SimG E' W' (I.G k) I.nx → I.J k E' W'
 hY : ∀ {k E W vs}, I.J k E W → k < I.N → Rs E W (I.cl k) vs → YieldAt (fen none) 1 P I.l vs.toArray W fun e W' => e = .returned (.bool true) ∧ ∃ E', EvR E W E' W' ∧ I.J (k + 1) E' W'
/-- The contract of an iterator's value, where a fact is known by a name. -/
def ye (nF : Nat) (F : GObj) (P : Program) (gf : Nat) (caps : List C) (N : Nat) (cl : Nat → List C) : Prop :=
 ∀ (I : FC), I.N = N → I.cl = cl → I.Ok P → (∀ k, I.G k nF = some F) → nF < I.nx → ∀ (E : Env) (w : World) (lb : List Value), I.J 0 E w → Rs E w caps lb →
  CallsIn (fen none) 2 P gf (#[.func (.yield I.l) #[] #[]] ++ lb.toArray) w fun e W' => (∃ v, e = .returned v) ∧ ∃ E', I.J N E' W'

section
variable (P : Program) (I : FC)
def FW (c : Code) (Q : Exit → St → Nat → Prop) (st : St) (k : Nat) : Prop :=
 ∀ E W a, I.J k E W → Sim E W (I.st st k) a → cwp none P c (fun e a' W' => ∃ E' st' k', I.J k' E' W' ∧ Sim E' W' (I.st st' k') a' ∧ Q e st' k') a W
def ug8 (K : St → Nat → Prop) (Q : Exit → St → Nat → Prop) : Exit → St → Nat → Prop
 | .normal, st, k => K st k
 | e, st, k => Q e st k
def ug9 (id : Nat) (Q : Exit → St → Nat → Prop) : Exit → St → Nat → Prop
 | .exit id', st, k => if id' = id then Q .normal st k else Q (.exit id') st k
 | e, st, k => Q e st k
def sy (ops : Array Oper) (K : St → Nat → Prop) (rest : List Oper) (st : St) (k : Nat) : Prop :=
 ∀ E W a, I.J k E W → Sim E W (I.st st k) a → ∀ Q : Exit → Act → World → Prop, (∀ a' E' W' st' k', I.J k' E' W' → Sim E' W' (I.st st' k') a' → K st' k' → Q .normal a' W') → wpListIn (fen none) 1 P ops Q rest a W
end
/-- Cells that name nothing beyond m: what stands in slots last. -/
def lowR (m : Nat) : List Nat → List (Nat × C) → Prop
 | _, [] => True
 | s, p :: r => (s.contains p.1 = true ∨ p.2.low m) ∧ lowR m (p.1 :: s) r
theorem ud7 {m : Nat} {l : List C} {i : Nat} (hl : (l.getD i .any).low m) : ∀ {r : List (Nat × C)} {s : List Nat}, lowR m s r → s.contains i = false → (cy l r i).low m
 | [], _, _, _ => hl
 | p :: r, s, h, hi => by
  simp only [cy]
  cases hb : Nat.beq p.1 i
  ·rw [cond_false]
   refine ud7 hl h.2 ?_
   have hne : ¬ p.1 = i := fun e => by rw [e] at hb; simp at hb
   simp only [List.contains_cons, Bool.or_eq_false_iff, beq_eq_false_iff_ne]
   exact ⟨fun e => hne e.symm, hi⟩
  ·rw [cond_true]
   have e := Nat.eq_of_beq_eq_true hb
   rcases h.1 with h1 | h1
   ·rw [e, hi] at h1; cases h1
   ·exact h1

/-- .. so what stood in slots ahead. -/
def lowN (m : Nat) (s : List Nat) : Nat → List C → Prop
 | _, [] => True
 | i, c :: l => (s.contains i = true ∨ c.low m) ∧ lowN m s (i + 1) l
theorem ud9 {m : Nat} {s : List Nat} : ∀ {l : List C} {i j : Nat}, lowN m s i l → s.contains (i + j) = false → (l.getD j .any).low m
 | [], _, _, _, _ => .any
 | c :: l, i, 0, h, hs => by
  rcases h.1 with h1 | h1
  ·rw [Nat.add_zero] at hs; rw [hs] at h1; cases h1
  ·exact h1
 | c :: l, i, j + 1, h, hs => ud9 (l := l) (i := i + 1) (j := j) h.2 (by rw [show i + 1 + j = i + (j + 1) by omega]; exact hs)
theorem ud8 {m : Nat} {l : List C} {i : Nat} : ∀ {r : List (Nat × C)} {s : List Nat}, ((r.map (·.1)).contains i = false → (l.getD i .any).low m) → lowR m s r → s.contains i = false → (cy l r i).low m
 | [], _, hl, _, _ => hl rfl
 | p :: r, s, hl, h, hi => by
  simp only [cy]
  cases hb : Nat.beq p.1 i
  ·rw [cond_false]
   have hne : ¬ p.1 = i := fun e => by rw [e] at hb; simp at hb
   refine ud8 (fun hk => hl ?_) h.2 ?_
   ·simp only [List.map_cons, List.contains_cons, Bool.or_eq_false_iff, beq_eq_false_iff_ne]
    exact ⟨fun e => hne e.symm, hk⟩
   ·simp only [List.contains_cons, Bool.or_eq_false_iff, beq_eq_false_iff_ne]
    exact ⟨fun e => hne e.symm, hi⟩
  ·rw [cond_true]
   have e := Nat.eq_of_beq_eq_true hb
   rcases h.1 with h1 | h1
   ·rw [e, hi] at h1; cases h1
   ·exact h1
/-- so that what stands in slots last names nothing beyond what is owned -/
theorem zK {p : Prop} (h : p := by (try dsimp only); repeat' (first | exact trivial | exact .inl rfl | refine ⟨?_, ?_⟩ | exact .v | exact .any | refine .inr ?_ | refine .elem ?_ | refine .agg ?_ | refine .tup ?_ | refine .fn ?_ | exact co _ _ | exact f8 _ _ | exact ey _ _ | exact ge _ (by (try dsimp only); omega) | exact .box (by (try dsimp only); omega) | exact fp | exact dj | exact ff _ | refine ct ?_ ?_)) : p := h
section
variable {P : Program} {I : FC} {Q : Exit → St → Nat → Prop} {st : St} {k : Nat}
theorem uy (h : Q .normal st k) : FW P I .skip Q st k := fun _ _ _ hj hs => wpIn_skip ⟨_, st, k, hj, hs, h⟩
theorem uao {id : Nat} (h : Q (.exit id) st k) : FW P I (.exit id) Q st k := fun _ _ _ hj hs => wpIn_exit ⟨_, st, k, hj, hs, h⟩
theorem pr {x z : Code} (h : ∀ K : St → Nat → Prop, (∀ st' k', FW P I z Q st' k' → K st' k') → FW P I x (ug8 K Q) st k) : FW P I (.seq x z) Q st k := by
 intro E W a hj hs
 refine wpIn_seq (wpIn_mono (h _ (fun _ _ h => h) E W a hj hs) ?_)
 rintro e a' W' ⟨E', st', k', h1, h2, h3⟩
 cases e with
 | normal => exact h3 E' W' a' h1 h2
 | _ => exact ⟨E', st', k', h1, h2, h3⟩
theorem se {id : Nat} {c : Code} (h : FW P I c (ug9 id Q) st k) : FW P I (.block id c) Q st k := by
 intro E W a hj hs
 refine wpIn_block (wpIn_mono (h E W a hj hs) ?_)
 rintro e a' W' ⟨E', st', k', h0, h1, h2⟩
 cases e with
 | exit id' =>
  simp only [ug9] at h2
  simp only [Exit.inBlock]
  split at h2
  ·rename_i e; rw [if_pos e]; exact ⟨E', st', k', h0, h1, h2⟩
  ·rename_i e; rw [if_neg e]; exact ⟨E', st', k', h0, h1, h2⟩
 | _ => exact ⟨E', st', k', h0, h1, h2⟩
theorem uz {c : Operand} {x z : Code} {b : Bool} (hc : evC st c = .v (.bool b)) (ht : b = true → FW P I x Q st k) (hf : b = false → FW P I z Q st k) : FW P I (.cond c x z) Q st k := by
 intro E W a hj hs
 have : evC (I.st st k) c = .v (.bool b) := hc
 exact wpIn_cond_split ((this ▸ hs.ev c).v_inv) (fun e => ht e E W a hj hs) (fun e => hf e E W a hj hs)
theorem k8 {c : Code} (m : Nat) (h : FW P I c Q { st with l := firsts st.l st.r 0 m, r := [] } k) : FW P I c Q st k := fun E W a hj hs => h E W a hj (hs.wipe m)
theorem uan {X : Type} {c : Code} (Inv : X → Prop) (μ : X → Nat) (u : X → List (Nat × C)) (kk : X → Nat) (x0 : X) (hr : st.r = []) (h0 : Inv x0) (e0 : qe st.l [] (u x0)) (hk : k = kk x0)
  (hu : ∀ x, Inv x → r7 I.nx (u x))
  (round : ∀ x, Inv x → FW P I c (ug8 (fun st' k' => ∃ x', μ x' < μ x ∧ Inv x' ∧ k' = kk x' ∧ Back (I.st st k) (u x') (I.G k') (I.st st' k')) Q) { st with r := u x } (kk x)) : FW P I (.loop c) Q st k := by
 intro E W a hj hs
 refine uay (fun m a1 W1 => ∃ x E1, m = μ x ∧ Inv x ∧ I.J (kk x) E1 W1 ∧ Sim E1 W1 (I.st { st with r := u x } (kk x)) a1) (μ x0) ⟨x0, E, rfl, h0, hk ▸ hj, ?_⟩ ?_
 ·have := le_r (n := st.n) (G := I.G k) (nx := I.nx) (df := 0) e0 rfl E W a (by rw [← hr]; exact hs)
  rw [← hk]
  exact this
 ·rintro m a1 W1 ⟨x, E1, rfl, hI, hj1, hs1⟩
  refine wpIn_mono (round x hI E1 W1 a1 hj1 hs1) ?_
  rintro e a' W' ⟨E', st', k', h1, h2, h3⟩
  cases e with
  | normal =>
   obtain ⟨x', q1, q2, rfl, q3⟩ := h3
   refine ⟨μ x', q1, x', E', rfl, q2, h1, ?_⟩
   refine ⟨by have := h2.d; exact this, h2.sz.trans (show st'.n = st.n from q3.n.1), fun i v hv => ?_, h2.g⟩
   have hcl : cy st.l (u x') i = .any ∨ cy st.l (u x') i = cy st'.l st'.r i := by
    by_cases hi : i < st.l.length
    ·rcases xq _ _ q3.fits i (Nat.zero_le _) (by show i < 0 + st.l.length; omega) with h | h
     ·exact .inl h
     ·exact .inr h.symm
    ·rcases xn st.l (u x') i with ⟨p, hp, he, he2⟩ | ⟨_, he⟩
     ·rcases q3.keys with hk | hk
      ·have : p.1 < st.l.length := xf hk p hp
       omega
      ·rcases xp hk p hp with h | h
       ·left; rw [he2, h]
       ·right; rw [he2, ← h, he]; rfl
     ·left; rw [he, List.getD_eq_getElem?_getD, List.getElem?_eq_none (by omega)]; rfl
   show R E' W' (cy st.l (u x') i) v
   rcases hcl with h | h
   ·rw [h]; exact .any
   ·rw [h]; exact h2.t i v hv
  | _ => exact ⟨E', st', k', h1, h2, h3⟩
/-- What plain code must leave. -/
def SegP (I : FC) (k : Nat) (l : List C) (n : Nat) (st' : St) : Prop := st'.df = 0 ∧ st'.n = n ∧ (st'.l = l ∨ lowN I.nx (st'.r.map (·.1)) 0 st'.l) ∧ I.nx ≤ st'.nx ∧ (∀ n o, I.G k n = some o → st'.G n = some o) ∧ lowR I.nx [] st'.r
theorem ucb (ok : I.Ok P) {E : Env} {W : World} {a : Act} (hj : I.J k E W) (hs : Sim E W (I.st st k) a) (hr : st.r = []) {E' : Env} {W' : World} {st' : St} {a' : Act} (h1 : Ev E W E' W') (h2 : Sim E' W' st' a') (h3 : SegP I k st.l st.n st') : I.J k (E'.drop I.nx) W' ∧ Sim (E'.drop I.nx) W' (I.st st' k) a' := by
 obtain ⟨q1, q2, q3, q4, q5, q6⟩ := h3
 have hnx : E.nx = I.nx := hs.g.nx
 have hlow := hs.lowG
 have hgl : ∀ n o, I.G k n = some o → n < I.nx ∧ o.low I.nx := hlow
 have hll : ∀ i, i < st.n → (st.l.getD i .any).low I.nx := fun i hi => by
  have := hs.low i hi
  have e : cy (I.st st k).l (I.st st k).r i = st.l.getD i .any := by show cy st.l st.r i = _; rw [hr]; rfl
  rw [e] at this
  exact this
 have hs' := h2.dropTo (st' := I.st st' k) rfl q1.symm q4 (fun i hi => .inr ⟨rfl, by
  rcases q3 with q3 | q3
  ·exact ud7 (q3 ▸ hll i (q2 ▸ hi)) q6 rfl
  ·exact ud8 (fun hk => ud9 (i := 0) q3 (by rw [Nat.zero_add]; exact hk)) q6 rfl⟩) (fun n o ho => ⟨q5 n o ho, hgl n o ho⟩)
 exact ⟨ok.ev hj (h1.drop (by omega)) hs'.g, hs'⟩
/-- Plain code. -/
theorem uam (ok : I.Ok P) {c : Code} (hr : st.r = []) (h : AW none P c (fun e st' => SegP I k st.l st.n st' ∧ Q e st' k) (I.st st k)) : FW P I c Q st k := by
 intro E W a hj hs
 refine iv ?_ (h E W a hs)
 rintro e a' W' ⟨st', E', h1, h2, h3⟩
 obtain ⟨q1, q2⟩ := ucb ok hj hs hr h1 h2 h3.1
 exact ⟨_, st', k, q1, q2, h3.2⟩
/-- .. so many pieces of it: what lies between. -/
def ka (P : Program) (I : FC) (z : Code) (Q : Exit → St → Nat → Prop) (k : Nat) (st0 st1 : St) : Prop :=
 ∀ E0 W0 a0 E1 W1 a1, I.J k E0 W0 → Sim E0 W0 (I.st st0 k) a0 → Ev E0 W0 E1 W1 → Sim E1 W1 st1 a1 → cwp none P z (fun e a' W' => ∃ E' st' k', I.J k' E' W' ∧ Sim E' W' (I.st st' k') a' ∧ Q e st' k') a1 W1
theorem pt {x z : Code} (h : AW none P x (mf (ka P I z Q k st) fun _ _ => False) (I.st st k)) : FW P I (.seq x z) Q st k := by
 intro E W a hj hs
 refine wpIn_seq (iv ?_ (h E W a hs))
 rintro e a1 W1 ⟨st1, E1, h1, h2, h3⟩
 cases e with
 | normal => exact h3 E W a E1 W1 a1 hj hs h1 h2
 | _ => exact h3.elim
theorem xo {x z : Code} {st1 : St} (h : AW none P x (mf (ka P I z Q k st) fun _ _ => False) st1) : ka P I (.seq x z) Q k st st1 := by
 intro E0 W0 a0 E1 W1 a1 hj hs hev hs1
 refine wpIn_seq (iv ?_ (h E1 W1 a1 hs1))
 rintro e a2 W2 ⟨st2, E2, h1, h2, h3⟩
 cases e with
 | normal => exact h3 E0 W0 a0 E2 W2 a2 hj hs (hev.trans h1) h2
 | _ => exact h3.elim
theorem pu (ok : I.Ok P) {z : Code} {st1 : St} (hr : st.r = []) (hp : SegP I k st.l st.n st1) (h : FW P I z Q st1 k) : ka P I z Q k st st1 := by
 intro E0 W0 a0 E1 W1 a1 hj hs hev hs1
 obtain ⟨q1, q2⟩ := ucb ok hj hs hr hev hs1 hp
 exact h _ W1 a1 q1 q2
theorem uey {id : Nat} {l : List Oper} (h : sy P I l.toArray (Q .normal) l st k) : FW P I (.region id l.toArray false) Q st k := fun E W a hj hs =>
 wpIn_region_lit (h E W a hj hs _ fun a' E' W' st' k' h0 h1 h2 => ⟨E', st', k', h0, h1, h2⟩)
variable {ops : Array Oper} {K : St → Nat → Prop} {rest : List Oper} {o : Oper} {c : C}
theorem ue2 (h : K st k) : sy P I ops K [] st k := fun E W a hj hs _ hq => wpListIn_nil (hq a E W st k hj hs h)
theorem qs (hg : fe ops st o = some true) (hq : NStep P o (I.st st k) c) (h : sy P I ops K rest (st.put o.dst c) k) : sy P I ops K (o :: rest) st k := by
 intro E W a hj hs Q hQ
 have hg' : fe ops (I.st st k) o = some true := hg
 refine wpListIn_step fun Kr hK => ?_
 rw [if_pos (kf hg' hs)]
 obtain ⟨v, h1, h2⟩ := hq E W a hs
 refine ww (sd hg).2 ?_
 unfold Oper.wp
 rw [h2 W]
 have hp := hs.put o.dst h1
 exact hK _ _ (h E W _ hj (by cases hd : o.dst <;> (rw [hd] at hp; exact hp)) Q hQ)
/-- A call of yield. -/
theorem ue1 (ok : I.Ok P) {fv : Operand} {args : List Operand} {ats : Array TypeId} {cs : List C} (hk : k < I.N) (hg : fe ops st o = some true) (ho : o.op = .call { callee := .value fv, args := args.toArray, argTypes := ats }) (hf : evC st fv = .v (.func (.yield I.l) #[] #[])) (has : args.map (evC st) = cs) (hcs : cs = I.cl k)
  (h1 : sy P I ops K rest (st.put o.dst (.v (.bool true))) (k + 1)) : sy P I ops K (o :: rest) st k := by
 intro E W a hj hs Q hQ
 have hg' : fe ops (I.st st k) o = some true := hg
 have hf' : evC (I.st st k) fv = .v (.func (.yield I.l) #[] #[]) := hf
 refine wpListIn_step fun Kr hK => ?_
 rw [if_pos (kf hg' hs)]
 have hfv := (hf' ▸ hs.ev fv).v_inv
 subst hcs
 have hra : Rs E W (I.cl k) (args.map a.eval) := by
  rw [← has]
  refine ⟨by simp, fun j c v h1 h2 => ?_⟩
  rw [List.getElem?_map] at h1 h2
  cases hx : args[j]? with
  | none => rw [hx] at h1; cases h1
  | some x =>
   rw [hx] at h1 h2
   simp only [Option.map_some, Option.some.injEq] at h1 h2
   subst h1; subst h2
   exact hs.ev x
 obtain ⟨fn, tmps, assign, body, hy, hR⟩ := ok.hY hj hk hra
 refine ⟨fun _ _ => trivial, ?_⟩
 rw [Oper.semAt_eq _ _ _ (sd hg).2]
 have hrun : (execOp a.eval o).run P W = .ok (.round I.l fn tmps assign body) W := by
  simp only [execOp, ho, resolve, hfv]
  simp [Deferred.ofValue, invoke]
  simpa using hy
 rw [hrun]
 refine ⟨fun e => (by cases e), ucn (hR.mono ?_)⟩
 rintro e W' ⟨rfl, E', h3, h4⟩
 refine hK _ _ (h1 E' W' _ h4 ?_ Q hQ)
 have hdef : a.defers = [] := List.eq_nil_of_length_eq_zero hs.d.2
 have hs' : Sim E' W' (I.st st (k + 1)) a := by
  refine ⟨⟨?_, hs.d.2⟩, hs.sz, fun i v hv => (hs.t i v hv).evr h3, ok.sim h4⟩
  rw [hdef]
  exact ok.F h4
 have hp := hs'.put o.dst (c := .v (.bool true)) (v := .bool true) (.v rfl)
 cases hd : o.dst <;> (rw [hd] at hp; exact hp)
end
theorem Rs.evr2 {E E' : Env} {w w' : World} {cs : List C} {vs : List Value} (h : Rs E w cs vs) (k : Ev E w E' w') : Rs E' w' cs vs := ⟨h.1, fun j c v h1 h2 => (h.2 j c v h1 h2).ev k⟩
theorem uep {nF : Nat} {F : GObj} {P : Program} {gf : Nat} {fn : Func} {c : Code} {caps : List C} {N : Nat} {cl : Nat → List C} (hf : P.funcs[gf]? = some fn) (hb : fn.body = some c) (hr : fn.results = #[])
  (h : ∀ I : FC, I.N = N → I.cl = cl → I.Ok P → (∀ k, I.G k nF = some F) → nF < I.nx →
   FW P I c (fun e _ k => (e = .normal ∨ e = .ret) ∧ k = N) { n := caps.length + 1 + (fn.ntmps - (caps.length + 1)), l := .v (.func (.yield I.l) #[] #[]) :: caps, r := [], G := noG, nx := 0 } 0) : ye nF F P gf caps N cl := by
 intro I hN hcl ok hG hn E w lb hj hrs
 have hargs : Rs E w (.v (.func (.yield I.l) #[] #[]) :: caps) (.func (.yield I.l) #[] #[] :: lb) := Rs.cons (.v rfl) hrs
 have hsim := Sim.start hargs (ok.sim hj) (ok.F hj) fn.ntmps
 have e1 : (#[.func (.yield I.l) #[] #[]] ++ lb.toArray : Array Value) = (.func (.yield I.l) #[] #[] :: lb).toArray := by simp
 rw [e1]
 have hw := h I hN hcl ok hG hn E w _ hj (show Sim E w (FC.st I _ 0) _ by unfold FC.st; simpa using hsim)
 refine callsIn_of_wp_marks hf hb trivial (wpIn_mono (vg (m := 2) hw) ?_)
 rintro e a' w' ⟨E', st', k', q1, q2, q3, rfl⟩
 have hd : a'.defers = [] := List.eq_nil_of_length_eq_zero q2.d.2
 have fin : bodyPostM (fen none) 2 P fn (fun e W' => (∃ v, e = .returned v) ∧ ∃ E', I.J k' E' W') .ret a' w' := by
  show LeavesInM (fen none) 2 P fn a'.tmps _ a'.defers .returning w'
  rw [hd]
  exact ⟨_, results_none hr _ _ _, ⟨_, rfl⟩, E', q1⟩
 rcases q3 with rfl | rfl
 ·exact fin
 ·exact fin

def vp (J : Nat → Nat → Option GObj) (k : Nat) (e : Exit) (st : St) : Prop :=
 match e with
 | .normal => ∀ n o, J k n = some o → st.G n = some o
 | _ => False
theorem ugm {P : Program} {nF : Nat} {F : GObj} {N : Nat} {g : Operand} {ps : Array Tmp} {assign body : Code} {Q : Exit → St → Prop} {st : St} {gf : Nat} [Fun P gf] {caps : List C} {cl : Nat → List C} (pl : List Tmp)
  (J : Nat → Nat → Option GObj) (u : Nat → List (Nat × C)) (it : ye nF F P gf caps N cl) (hJF : ∀ k, J k nF = some F) (hnF : nF < st.nx)
  (hg : evC st g = .fn (.func gf) caps) (hps : ps = pl.toArray) (hlen : ∀ k, (cl k).length = pl.length)
  (hu : ∀ k, tu pl (cl k) { st with G := J k, df := 0 } = { st with r := u k, G := J k, df := 0 })
  (h0 : ∀ n o, J 0 n = some o → st.G n = some o) (hJ : ∀ k n o, J k n = some o → st.G n = some o ∨ (n < st.nx ∧ o.low st.nx))
  (round : ∀ l k, k < N → AW (some l) P assign (mf (AW (some l) P body (vp J (k + 1))) fun _ _ => False) { st with r := u k, G := J k, df := 0 })
  (done : Q .normal { st with G := J N, df := st.df + 1 }) : AW none P (.rangeFunc g ps assign body) Q st := by
 intro E w a hs
 obtain ⟨vs, hgv, hvs⟩ := (hg ▸ hs.ev g).fn_inv
 have hlow : ∀ {G : Nat → Option GObj}, (∀ n o, G n = some o → st.G n = some o ∨ (n < st.nx ∧ o.low st.nx)) → ∀ n o, G n = some o → n < st.nx ∧ o.low st.nx := fun h n o ho => by
  rcases h n o ho with h1 | h1
  ·exact hs.lowG n o h1
  ·exact h1
 have hF : E.F ≤ w.heap.size := hs.d.F
 have hnx := hs.g.nx
 have simAt : ∀ {E1 : Env} {W : World} {G : Nat → Option GObj} {ds : List Deferred} {k : Nat}, Ev E w E1 W → SimG E1 W G st.nx → DefN E1 W k ds → Sim E1 W { st with G := G, df := k } { a with defers := ds } := fun hev hg1 hd =>
  ⟨hd, hs.sz, fun i v hv => (hs.t i v hv).ev hev, hg1⟩
 have marked : ∀ {E1 : Env} {W : World} {D : Nat}, Ev E w E1 W → (∀ n t, E1.T n = some t → n < st.nx) → NCB st.nx w.heap.size E1 W → w.heap.size ≤ D → W.heap[D]? = some (.deferred (some [])) → DefN E1 W (st.df + 1) ({ target := .collected D, args := #[] } :: a.defers) := fun {E1 W D} hev hlt hn hD hK => by
  refine ⟨⟨⟨D, rfl, by rw [hev.x.F]; omega, hK, fun n t ht hb => ?_, ?_⟩, (hs.d.ev hev).1⟩, by simp [hs.d.2]⟩
  ·have := hn n t D _ (hlt n t ht) ht hb hK rfl
   omega
  ·have : ∀ {ds : List Deferred}, DefOk E w ds → ∀ d' ∈ ds, d'.target ≠ .collected D := by
    intro ds
    induction ds with
    | nil => exact fun _ d' h => by cases h
    | cons d ds ih =>
     rintro ⟨⟨D', e', _, h2, _⟩, k⟩ d' hd'
     rcases List.mem_cons.1 hd' with rfl | hd'
     ·rw [e']
      intro e
      simp only [Target.collected.injEq] at e
      have := (Array.getElem?_eq_some_iff.1 h2).1
      omega
     ·exact ih k d' hd'
   exact this hs.d.1
 refine vg (n := 3) (wpIn_rangeFunc fun fn _ => ?_)
 -- the loop's record and the block for deferred calls
 obtain ⟨rc, hrc⟩ : ∃ rc : LoopState → Option Code → Loop, rc = fun s pe => { state := s, pending := pe, fn, tmps := a.tmps, params := ps, assign, body, defers := w.heap.size } := ⟨_, rfl⟩
 obtain ⟨W1, hW1⟩ : ∃ W1, (w.alloc (.deferred (some []))).alloc (.loop (rc .ready none)) = W1 := ⟨_, rfl⟩
 have sz1 : W1.heap.size = w.heap.size + 2 := by rw [← hW1]; simp
 have gr1 : w.grownBy W1 none := by
  refine ⟨by rw [← hW1]; rfl, by rw [← hW1]; rfl, by rw [← hW1]; rfl, by omega, fun k hk _ => ?_⟩
  rw [← hW1, Below.heap_alloc _ _ _ (by simp; omega), Below.heap_alloc _ _ _ hk]
 have recs : W1.heap[w.heap.size + 1]? = some (.loop (rc .ready none)) ∧ W1.heap[w.heap.size]? = some (.deferred (some [])) := by
  rw [← hW1]
  refine ⟨by have := World.alloc_heap_new (w.alloc (.deferred (some []))) (.loop (rc .ready none)); simpa using this, ?_⟩
  rw [Below.heap_alloc _ _ _ (by simp)]
  exact World.alloc_heap_new w _
 have own1 : OwnW E w (J 0) st.nx W1 := OwnW.turn hs.g ⟨E, Ev.refl E w, hs.g.weak h0, fun n t b o _ ht hb _ _ => (hs.g.tb n t.1 t.2.1 t.2.2 b ht hb).2⟩ gr1 (fun r e => by cases e)
 refine ⟨w.heap.size + 1, [{ target := .collected w.heap.size, args := #[] }], W1, { target := .fn (.func gf) vs.toArray, args := #[.func (.yield (w.heap.size + 1)) #[] #[]] }, W1, gf, #[.func (.yield (w.heap.size + 1)) #[] #[]] ++ vs.toArray, W1, ?_, ?_, fun _ _ => trivial, ?_, fun e => (by cases e), ?_⟩
 ·rw [← hW1, hrc]; exact run_enterLoop_outer _ _ _ _ _
 ·simp only [resolve, hgv]; simp [go_sem]
 ·simp [invoke, go_sem, wj]
 have below1 : Below w.heap.size w W1 := ⟨gr1.os, gr1.tape, gr1.output, gr1.size, fun k hk => gr1.block k hk (by simp)⟩
 obtain ⟨E0, hev0, hsg0, hn0⟩ := own1
 have unt : ∀ {E1 : Env} {W : World} {k : Nat} {G : Nat → Option GObj} {o : Obj}, SimG E1 W G st.nx → NCB st.nx w.heap.size E1 W → w.heap.size ≤ k → W.heap[k]? = some o → o.isCells = false → ∀ n t, E1.T n = some t → blk t.2.2 ≠ some k := fun {E1 W k G o} hs1 hn hk' ho hf n t ht hb => by
  have hE1 : E1.nx = st.nx := hs1.nx
  have := hn n t k o (hE1 ▸ hs1.lt n t ht) ht hb ho hf
  omega
 obtain ⟨I, hI⟩ : ∃ I : FC, I = { G := J, nx := st.nx, N := N, l := w.heap.size + 1, cl := cl, J := fun k E1 W => Ev E w E1 W ∧ SimG E1 W (J k) st.nx ∧ NCB st.nx w.heap.size E1 W ∧ W.heap[w.heap.size + 1]? = some (.loop (rc .ready none)) ∧ W.heap[w.heap.size]? = some (.deferred (some [])) } := ⟨_, rfl⟩
 have hIJ : ∀ k E1 W, I.J k E1 W = (Ev E w E1 W ∧ SimG E1 W (J k) st.nx ∧ NCB st.nx w.heap.size E1 W ∧ W.heap[w.heap.size + 1]? = some (.loop (rc .ready none)) ∧ W.heap[w.heap.size]? = some (.deferred (some []))) := fun k E1 W => by rw [hI]
 have ok : I.Ok P := by
  refine ⟨fun {k E1 W} h => ?_, fun {k E1 W} h => ?_, fun {k E1 W E2 W2} h h1 h2 => ?_, ?_⟩
  ·rw [hIJ] at h; rw [hI]; exact h.2.1
  ·rw [hIJ] at h
   rw [h.1.x.F]; exact Nat.le_trans hF h.1.below.size
  ·rw [hIJ] at h ⊢
   rw [hI] at h2
   obtain ⟨q1, q2, q3, q4, q5⟩ := h
   have hE1 : E1.nx = st.nx := q2.nx
   exact ⟨q1.trans h1, h2, q3.step (by omega) q2 h1, h1.x.oth _ _ q4 (unt q2 q3 (by omega) q4 rfl), h1.x.oth _ _ q5 (unt q2 q3 (Nat.le_refl _) q5 rfl)⟩
  -- a round
  rintro k E1 W us hj hkN hcl
  rw [hIJ] at hj
  obtain ⟨hev, hs1, hn, hl, hk⟩ := hj
  have hkN' : k < N := by rw [hI] at hkN; exact hkN
  replace hcl : Rs E1 W (cl k) us := by rw [hI] at hcl; exact hcl
  have hul : us.length = pl.length := by rw [hcl.1]; exact hlen k
  have hE1 : E1.nx = st.nx := hs1.nx
  have unt : ∀ {k : Nat} {o : Obj}, w.heap.size ≤ k → W.heap[k]? = some o → o.isCells = false → ∀ n t, E1.T n = some t → blk t.2.2 ≠ some k := fun h1 h2 h3 => unt hs1 hn h1 h2 h3
  have hIl : I.l = w.heap.size + 1 := by rw [hI]
  rw [hIl]
  have hy := run_yield (P := P) (args := us.toArray) hl (by rw [hrc]; simp [hps, hul])
  rw [hrc] at hy
  refine ⟨fn, _, assign, body, hy, roundIn_of_wpIn trivial ?_⟩
  clear hy
  have ha0 : ({ tmps := (ps.zip us.toArray).foldl (fun t (p, v) => t.setIfInBounds p v) a.tmps, defers := [] } : Act) = ro pl us { tmps := a.tmps, defers := [] } := by
   rw [zi, hps]
   simp
  have hF1 : E1.F ≤ W.heap.size := by rw [hev.x.F]; exact Nat.le_trans hF hev.below.size
  have hsim := y8 pl hcl (simAt (ds := []) (k := 0) hev hs1 ⟨hF1, rfl⟩)
  rw [hu k] at hsim
  show assign.wpIn (fen (some (w.heap.size + 1))) 1 P _ { tmps := (ps.zip us.toArray).foldl (fun t (p, v) => t.setIfInBounds p v) a.tmps, defers := [] } W
  rw [ha0]
  refine wpIn_mono (round (w.heap.size + 1) k hkN' E1 W _ hsim) ?_
  rintro e a1 Wa ⟨st1, E2, q1, q2, q3⟩
  cases e with
  | normal =>
   have hla := q1.x.oth _ _ hl (unt (by omega) hl rfl)
   have hka := q1.x.oth _ _ hk (unt (Nat.le_refl _) hk rfl)
   have hlta := (Array.getElem?_eq_some_iff.1 hla).1
   refine ⟨_, run_beginRound hla (by rw [hrc]), ?_⟩
   -- the record is busy
   have unt2 : ∀ {k : Nat} {o : Obj}, w.heap.size ≤ k → W.heap[k]? = some o → o.isCells = false → ∀ n t, E2.T n = some t → blk t.2.2 ≠ some k := fun {k o} hk' ho hf n t ht hb => by
    obtain ⟨t0, h1, h2⟩ := q1.x.nb n t k o ht hb ho
    exact unt hk' ho hf n t0 h1 h2
   obtain ⟨Wb, hWb⟩ : ∃ Wb, Wa.putObj (w.heap.size + 1) (.loop { rc .ready none with state := .busy }) = Wb := ⟨_, rfl⟩
   rw [hWb]
   have grb : Wa.grownBy Wb (some (w.heap.size + 1)) := hWb ▸ grownBy_putObj' _ _ _
   have hlb : Wb.heap[w.heap.size + 1]? = some (.loop { rc .ready none with state := .busy }) := hWb ▸ World.putObj_heap_same hlta
   have hkb : Wb.heap[w.heap.size]? = some (.deferred (some [])) := (grb.block _ (Array.getElem?_eq_some_iff.1 hka).1 (by simp)).trans hka
   obtain ⟨evb, hcellb⟩ := (hev.trans q1).turn hs.g q2.g.fresh grb (fun r e => by cases e; exact ⟨by omega, _, hla, rfl⟩)
   have hblkb : ∀ n t b, E2.T n = some t → blk t.2.2 = some b → Wb.heap[b]? = Wa.heap[b]? := fun n t b ht hb => by
    refine grb.block b (q2.g.tb n t.1 t.2.1 t.2.2 b ht hb).2 fun e => ?_
    simp only [Option.some.injEq] at e
    subst e
    exact unt2 (by omega) hl rfl n t ht hb
   have gb := q2.g.heap hcellb hblkb grb.size
   have db : DefN E2 Wb st1.df a1.defers := by
    have : ∀ {ds : List Deferred}, DefOk E2 Wa ds → DefOk E2 Wb ds := by
     intro ds
     induction ds with
     | nil => exact fun h => Nat.le_trans h grb.size
     | cons d ds ih =>
      rintro ⟨⟨D', e', h1, h2, h3, h4⟩, k⟩
      refine ⟨⟨D', e', h1, (grb.block D' (Array.getElem?_eq_some_iff.1 h2).1 fun e => ?_).trans h2, h3, h4⟩, ih k⟩
      simp only [Option.some.injEq] at e
      subst e
      rw [hla] at h2; cases h2
    exact ⟨this q2.d.1, q2.d.2⟩
   have simb : Sim E2 Wb st1 a1 := ⟨db, q2.sz, fun i v hv => (q2.t i v hv).same (fun _ => Nat.le_refl _) hcellb rfl rfl, gb⟩
   have nb2 : NCB st.nx w.heap.size E2 Wb := fun n t b o hm ht hb ho hf => by
    have := hblkb n t b ht hb
    exact hn.step (by omega) hs1 q1 n t b o hm ht hb (this.symm.trans ho) hf
   have hm2 : st.nx ≤ E2.nx := hE1 ▸ q1.nx
   refine wpIn_mono (q3 E2 Wb a1 simb) ?_
   rintro e a3 W3 ⟨st', E3, r1, r2, r3⟩
   have hl3 := r1.x.oth _ _ hlb (unt2 (by omega) hl rfl)
   have hk3 := r1.x.oth _ _ hkb (unt2 (Nat.le_refl _) hk rfl)
   have nb3 := nb2.step hm2 gb r1
   have own : ∀ {Gk : Nat → Option GObj}, (∀ n o, Gk n = some o → st'.G n = some o) → (∀ n o, Gk n = some o → n < st.nx ∧ o.low st.nx) → OwnW E w Gk st.nx W3 := fun {Gk} hsub hlw =>
    ⟨E3.drop st.nx, (evb.trans r1).drop (by omega), (r2.g.weak hsub).drop hlw, fun n t b o hm ht hb ho hf => nb3 n t b o hm (by simp only [Env.drop] at ht; rw [if_pos hm] at ht; exact ht) hb ho hf⟩
   -- the end of the round
   have fin : ∀ (jump : Option Code), (Instr.endRound (w.heap.size + 1) jump).run P W3 = .ok (.bool jump.isNone) (W3.putObj (w.heap.size + 1) (.loop (rc (if jump.isNone then .ready else .done) jump))) ∧
     (W3.putObj (w.heap.size + 1) (.loop (rc (if jump.isNone then .ready else .done) jump))).heap[w.heap.size + 1]? = some (.loop (rc (if jump.isNone then .ready else .done) jump)) ∧
     (W3.putObj (w.heap.size + 1) (.loop (rc (if jump.isNone then .ready else .done) jump))).heap[w.heap.size]? = some (.deferred (some [])) := fun jump => by
    refine ⟨?_, World.putObj_heap_same (Array.getElem?_eq_some_iff.1 hl3).1, (World.putObj_heap_other (by omega)).trans hk3⟩
    have := run_endRound (P := P) jump hl3
    rw [hrc] at this ⊢
    exact this
   have keep : ∀ jump, KeepL E W (W3.putObj (w.heap.size + 1) (.loop (rc (if jump.isNone then .ready else .done) jump))) := fun jump => ⟨by
    rw [World.putObj_size]
    exact Nat.le_trans q1.below.size (Nat.le_trans grb.size r1.below.size), fun b i hi => by
    have hne : b ≠ w.heap.size + 1 := fun e => by subst e; rw [hs.g.fresh _ (by omega)] at hi; omega
    refine (World.cell?_of_block (w := W3) (World.putObj_heap_other hne)).trans ?_
    have h1 : i < E1.L b := Nat.lt_of_lt_of_le hi (hev.L b)
    have h2 : i < E2.L b := Nat.lt_of_lt_of_le h1 (q1.L b)
    exact (r1.cell b i h2).trans ((hcellb b i h2).trans (q1.cell b i h1))⟩
   cases e with
   | normal =>
    obtain ⟨h1, h2, h3⟩ := fin none
    have hjm : ∀ n o, J (k + 1) n = some o → n < st.nx ∧ o.low st.nx := hlow (hJ _)
    have hown : OwnW E w (J (k + 1)) st.nx W3 := own r3 hjm
    have hevd : Ev E w (E3.drop st.nx) W3 := (evb.trans r1).drop (by omega)
    have hsgd : SimG (E3.drop st.nx) W3 (J (k + 1)) st.nx := (r2.g.weak r3).drop hjm
    have hncd : NCB st.nx w.heap.size (E3.drop st.nx) W3 := fun n t b o hm ht hb ho hf => nb3 n t b o hm (by simp only [Env.drop] at ht; rw [if_pos hm] at ht; exact ht) hb ho hf
    obtain ⟨W4, hW4⟩ : ∃ W4, W3.putObj (w.heap.size + 1) (.loop (rc (if (none : Option Code).isNone then .ready else .done) none)) = W4 := ⟨_, rfl⟩
    have gr4 : W3.grownBy W4 (some (w.heap.size + 1)) := hW4 ▸ grownBy_putObj' _ _ _
    have hrow : ∀ r, some (w.heap.size + 1) = some r → w.heap.size ≤ r ∧ ∃ o : Obj, W3.heap[r]? = some o ∧ o.isCells = false := fun r e => by cases e; exact ⟨by omega, _, hl3, rfl⟩
    obtain ⟨ev4, hcell4⟩ := hevd.turn hs.g hsgd.fresh gr4 hrow
    have unt3 : ∀ n t b, (E3.drop st.nx).T n = some t → blk t.2.2 = some b → W4.heap[b]? = W3.heap[b]? := fun n t b ht hb => by
     refine gr4.block b (hsgd.tb n t.1 t.2.1 t.2.2 b ht hb).2 fun e => ?_
     simp only [Option.some.injEq] at e
     subst e
     have := hncd n t _ _ (hsgd.nx ▸ hsgd.lt n t ht) ht hb hl3 rfl
     omega
    have hsg4 : SimG (E3.drop st.nx) W4 (J (k + 1)) st.nx := hsgd.heap hcell4 unt3 gr4.size
    have hnc4 : NCB st.nx w.heap.size (E3.drop st.nx) W4 := fun n t b o hm ht hb ho hf => hncd n t b o hm ht hb ((unt3 n t b ht hb).symm.trans ho) hf
    rw [hW4] at h1 h2 h3
    refine ⟨_, _, h1, rfl, E3.drop st.nx, ?_, ?_⟩
    ·have t1 : EvR E1 W E2 Wb := q1.r.trans (EvR.same hcellb)
     have t2 : EvR E1 W (E3.drop st.nx) W3 := (t1.trans r1.r).drop (by omega)
     exact t2.trans (EvR.same hcell4)
    ·rw [hIJ]
     exact ⟨ev4, hsg4, hnc4, h2, h3⟩
   | _ => exact r3.elim
  | _ => exact q3.elim
 have hcall := it I (by rw [hI]) (by rw [hI]) ok (fun k => by rw [hI]; exact hJF k) (by rw [hI]; exact hnF) E0 W1 vs (by rw [hIJ]; exact ⟨hev0, hsg0, hn0, recs.1, recs.2⟩) (hvs.evr2 hev0)
 rw [show I.l = w.heap.size + 1 by rw [hI]] at hcall
 refine hcall.mono ?_
 -- behind the iterator
 rintro e W2 ⟨⟨v, rfl⟩, E1, hj⟩
 rw [hIJ] at hj
 obtain ⟨hevj, hsj, hnj, hl, hk⟩ := hj
 have hI2 : OwnW E w (J N) st.nx W2 := ⟨E1, hevj, hsj, hnj⟩
 obtain ⟨E1, hev, hs1, hn⟩ := hI2.put hs.g (by omega) hl rfl (.loop { rc .ready none with state := .exhausted })
 have hK : (W2.putObj (w.heap.size + 1) (.loop { rc .ready none with state := .exhausted })).heap[w.heap.size]? = some (.deferred (some [])) := (World.putObj_heap_other (by omega)).trans hk
 exact ⟨none, _, by have := run_endLoop (P := P) hl (by rw [hrc]; simp); rw [hrc] at this ⊢; exact this, _, E1, hev, simAt hev hs1 (marked hev (fun n t ht => hs1.nx ▸ hs1.lt n t ht) hn (Nat.le_refl _) hK), done⟩
end Go.AB
namespace Go.AB
open Go Go.RowKit
open Go.AB.Enc (cells)
open Go.PB (bg aj PlaceD bn bq bp ck az ak dc ce dr dv)
/-- how many readers are ahead of a side -/
def sdN (p : ak) : Nat → Nat
 | 0 => 0
 | 1 => p.firsts.length
 | _ => p.firsts.length + p.seconds.length
theorem za {p : ak} : ∀ {k : Nat}, k < 2 → sdN p (k + 1) = sdN p k + (ec p (decide (k = 1))).length
 | 0, _ => (Nat.zero_add _).symm
 | 1, _ => rfl
 | k + 2, h => by omega
theorem umg {p : ak} : ∀ {k i : Nat}, k < 2 → i < (ec p (decide (k = 1))).length → dm p (sdN p k + i) = pp p (decide (k = 1)) i ∧ sdN p k + i < c4 p
 | 0, i, _, h => by
  have h : i < p.firsts.length := h
  rw [show sdN p 0 + i = i from Nat.zero_add i]
  unfold dm c4
  rw [decide_eq_true h]
  exact ⟨rfl, by omega⟩
 | 1, i, _, h => by
  have h : i < p.seconds.length := h
  rw [show sdN p 1 + i = p.firsts.length + i from rfl]
  unfold dm c4
  rw [decide_eq_false (by omega), Nat.add_sub_cancel_left]
  exact ⟨rfl, by omega⟩
 | k + 2, _, h, _ => by omega
end Go.AB
namespace Go.Proofs.YtgffhbbcpgdjjaaGreatDoor
set_option maxRecDepth 10000
open Go Go.RowKit Go.AB
open Go.AB.Enc (cells)
open Go.PB (bg aj PlaceD bn bq bp ck az ak dc ce dr dv)
set_option maxHeartbeats 1000000 in
theorem umf (nF : Nat) (p : ak) (h : gh p) : ye nF fm Tryz.prog 93 [.elem [.elem (kr p)]] (c4 p) (fun k => [.v (.int .i64 (dm p k))]) := by
 refine uep Tryz.func93 rfl rfl fun I hN hcl ok hG hn => ?_
 simp only [Tryz.ntmps93, List.length_cons, List.length_nil, Nat.reduceAdd, Nat.reduceSub]
 have hn1 := h.nf
 have hn2 := h.ns
 refine k8 2 ?_
 refine zQ ?_
 refine pt ?_
 dsimp only [FC.st]
 refine cp fun hlt => ?_
 dsimp only at hlt
 refine aw ?_
 try dsimp only [St.put]
 refine ae rfl (cd (n := 6) (m := nF) rfl rfl (hG _) rfl) ?_
 refine aa rfl (ba rfl (by constructor)) ?_
 refine av ?_
 dsimp only [St.put]
 show ka _ _ _ _ _ _ _
 refine pu ok rfl ⟨rfl, rfl, zK, zN, zS, zK⟩ ?_
 refine se ?_
 refine k8 10 ?_
 refine zQ ?_
 refine uan (X := Nat) (fun k => k ≤ 2) (fun k => 2 - k) (fun k => [(2, .any), (3, .any), (4, .any), (5, .any), (6, .any), (7, .any), (9, .v (.int .i64 (k : Int)))]) (fun k => sdN p k) 0 rfl ?_ ?_ ?_ ?_ ?_
 ·exact Nat.zero_le _
 ·exact zF
 ·rfl
 ·rintro k hI
  exact zL
 ·rintro k hI
  dsimp only at hI ⊢
  refine k8 10 ?_
  refine zQ ?_
  refine pt ?_
  dsimp only [FC.st]
  refine cp fun hlt => ?_
  dsimp only at hlt
  refine aw ?_
  refine aa rfl (c5 rfl rfl rfl) ?_
  refine av ?_
  dsimp only [St.put]
  show ka _ _ _ _ _ _ _
  refine pu ok rfl ⟨rfl, rfl, zK, zN, zS, zK⟩ ?_
  refine pr fun K1 hK1 => ?_
  refine uz rfl (fun hc => ?_) (fun hc => ?_)
  ·replace hc := of_decide_eq_true hc
   have hk : k < 2 := by omega
   have hsl : (ec p (decide (k = 1))).length ≤ 3 := by
    cases decide (k = 1)
    ·exact hn1
    ·exact hn2
   refine uy ?_
   refine hK1 _ _ ?_
   refine pr fun K2 hK2 => ?_
   refine se ?_
   refine k8 10 ?_
   refine zQ ?_
   refine pt ?_
   dsimp only [FC.st]
   refine cp fun hlt => ?_
   dsimp only at hlt
   refine aw ?_
   refine aa rfl (w8 (k := k) (m := 2) (sz := 3) rfl rfl rfl rfl hk (wa hk)) ?_
   try dsimp only [St.put]
   refine af rfl (dt rfl ?_)
   try dsimp only [St.put]
   first | refine af rfl (da rfl rfl rfl zG rfl rfl (by rfl) ?_) | refine af rfl (g7 rfl rfl rfl zG (by constructor) rfl zO ?_)
   refine av ?_
   dsimp only [St.put]
   show ka _ _ _ _ _ _ _
   refine xo ?_
   refine gl (i := 4) rfl zG zC ?_
   dsimp only
   refine g8 [(0, none), (1, none), (2, none), (3, none), (4, none), (5, none), (8, none), (6, none), (7, none)] (fun i => [6].contains i) (fun i => [6].contains i) (fun i => [0, 3, 4, 7, 8].contains i) [] (by kernel_rfl) (by kernel_rfl) ?_
   first | refine ah rfl rfl rfl rfl (br rfl rfl rfl) ?_ | refine ah rfl rfl rfl rfl (cr rfl rfl) ?_
   try dsimp only [St.put]
   first | refine ai rfl rfl rfl rfl (bh rfl rfl) ?_ | refine ai rfl rfl rfl rfl (aq rfl rfl (Enc.len _)) ?_ | refine ai rfl rfl rfl rfl (aq rfl rfl rfl) ?_ | refine ai rfl rfl rfl rfl (bz rfl rfl zG (by simp) (by first | rfl | assumption)) ?_ | refine ai rfl rfl rfl rfl (ca rfl rfl zG (by simp) (by rfl)) ?_ | refine ai rfl rfl rfl rfl (cg rfl rfl zG (by simp) (by simp)) ?_ | refine ai rfl rfl rfl rfl (ax rfl rfl zG (by simp) (ci (by assumption) rfl)) ?_ | refine ai rfl rfl rfl rfl (ax rfl rfl zG (by simp) (by assumption)) ?_ | refine ai rfl rfl rfl rfl (cj rfl rfl zG (by simp) rfl (by assumption) rfl (by decide)) ?_ | refine ai rfl rfl rfl rfl (cd rfl rfl zG (by rfl)) ?_
   try dsimp only [St.put]
   first | refine ai rfl rfl rfl rfl (bh rfl rfl) ?_ | refine ai rfl rfl rfl rfl (aq rfl rfl (Enc.len _)) ?_ | refine ai rfl rfl rfl rfl (aq rfl rfl rfl) ?_ | refine ai rfl rfl rfl rfl (bz rfl rfl zG (by simp) (by first | rfl | assumption)) ?_ | refine ai rfl rfl rfl rfl (ca rfl rfl zG (by simp) (by rfl)) ?_ | refine ai rfl rfl rfl rfl (cg rfl rfl zG (by simp) (by simp)) ?_ | refine ai rfl rfl rfl rfl (ax rfl rfl zG (by simp) (ci (by assumption) rfl)) ?_ | refine ai rfl rfl rfl rfl (ax rfl rfl zG (by simp) (by assumption)) ?_ | refine ai rfl rfl rfl rfl (cj rfl rfl zG (by simp) rfl (by assumption) rfl (by decide)) ?_ | refine ai rfl rfl rfl rfl (cd rfl rfl zG (by rfl)) ?_
   first | refine ah rfl rfl rfl rfl (ku rfl rfl) ?_ | refine ah rfl rfl rfl rfl (jn rfl rfl) ?_ | refine ah rfl rfl rfl rfl (uf rfl rfl) ?_
   first | refine ah rfl rfl rfl rfl (br rfl rfl rfl) ?_ | refine ah rfl rfl rfl rfl (cr rfl rfl) ?_
   try dsimp only [St.put]
   refine ai rfl rfl rfl rfl (c := val p) (jb (cs := kr p) rfl rfl (show 4 ≤ 7 by decide)) ?_
   refine ah rfl rfl rfl rfl (ba rfl (by constructor)) ?_
   refine j4 ?_
   try dsimp only [St.put]
   refine gg rfl rfl rfl rfl (bl rfl rfl rfl (pg (decide (k = 1)) p) ?_)
   first | refine eo rfl rfl rfl rfl (bj rfl rfl (List.length_map _)) ?_ | refine eo rfl rfl rfl rfl (bj rfl rfl rfl) ?_ | refine eo rfl rfl rfl rfl (f7 rfl rfl) ?_ | refine eo rfl rfl rfl rfl (gd rfl rfl) ?_ | refine eo rfl rfl rfl rfl (ga rfl rfl) ?_ | refine eo rfl rfl rfl rfl (f9 rfl rfl (by omega)) ?_
   refine j3 ?_
   dsimp only [St.put]
   show ka _ _ _ _ _ _ _
   refine pu ok rfl ⟨rfl, rfl, zK, zN, zS, zK⟩ ?_
   refine se ?_
   refine k8 21 ?_
   refine zQ ?_
   refine uan (X := Nat) (fun i => i ≤ (ec p (decide (k = 1))).length) (fun i => (ec p (decide (k = 1))).length - i) (fun i => [(5, .any), (6, .any), (7, .any), (20, .v (.int .i64 (i : Int)))]) (fun i => sdN p k + i) 0 rfl ?_ ?_ ?_ ?_ ?_
   ·exact Nat.zero_le _
   ·exact zF
   ·rfl
   ·rintro i hI
    exact zL
   ·rintro i hJ
    dsimp only at hJ ⊢
    refine k8 21 ?_
    refine zQ ?_
    refine pt ?_
    dsimp only [FC.st]
    refine cp fun hlt => ?_
    dsimp only at hlt
    refine aw ?_
    refine aa rfl (c5 rfl rfl rfl) ?_
    refine av ?_
    dsimp only [St.put]
    show ka _ _ _ _ _ _ _
    refine pu ok rfl ⟨rfl, rfl, zK, zN, zS, zK⟩ ?_
    refine pr fun K3 hK3 => ?_
    refine uz rfl (fun hc => ?_) (fun hc => ?_)
    ·replace hc := of_decide_eq_true hc
     have hi : i < (ec p (decide (k = 1))).length := by omega
     obtain ⟨hL, hN2⟩ := umg hk hi
     refine uy ?_
     refine hK3 _ _ ?_
     refine pr fun K4 hK4 => ?_
     refine se ?_
     refine k8 21 ?_
     refine zQ ?_
     refine pt ?_
     dsimp only [FC.st]
     refine cp fun hlt => ?_
     dsimp only at hlt
     refine aw ?_
     refine aa rfl (ba rfl (by constructor)) ?_
     refine aa rfl (bf rfl (by constructor)) ?_
     refine av ?_
     dsimp only [St.put]
     show ka _ _ _ _ _ _ _
     refine xo ?_
     refine aw ?_
     try dsimp only [St.put]
     first | refine ae rfl (bh rfl rfl) ?_ | refine ae rfl (aq rfl rfl (Enc.len _)) ?_ | refine ae rfl (aq rfl rfl rfl) ?_ | refine ae rfl (bz rfl rfl zG trivial (by first | rfl | assumption)) ?_ | refine ae rfl (ca rfl rfl zG trivial (by rfl)) ?_ | refine ae rfl (cg rfl rfl zG trivial (by simp)) ?_ | refine ae rfl (ax rfl rfl zG trivial (ci (by assumption) rfl)) ?_ | refine ae rfl (ax rfl rfl zG trivial (by assumption)) ?_ | refine ae rfl (cj rfl rfl zG trivial rfl (by assumption) rfl (by decide)) ?_ | refine ae rfl (cd rfl rfl zG (by rfl)) ?_
     try dsimp only [St.put]
     first | refine ae rfl (bh rfl rfl) ?_ | refine ae rfl (aq rfl rfl (Enc.len _)) ?_ | refine ae rfl (aq rfl rfl rfl) ?_ | refine ae rfl (bz rfl rfl zG trivial (by first | rfl | assumption)) ?_ | refine ae rfl (ca rfl rfl zG trivial (by rfl)) ?_ | refine ae rfl (cg rfl rfl zG trivial (by simp)) ?_ | refine ae rfl (ax rfl rfl zG trivial (ci (by assumption) rfl)) ?_ | refine ae rfl (ax rfl rfl zG trivial (by assumption)) ?_ | refine ae rfl (cj rfl rfl zG trivial rfl (by assumption) rfl (by decide)) ?_ | refine ae rfl (cd rfl rfl zG (by rfl)) ?_
     refine aa rfl (ba rfl (by constructor)) ?_
     try dsimp only [St.put]
     refine af rfl (bl rfl rfl rfl (uc2 p (decide (k = 1)) i h hi) ?_)
     refine aa rfl (ba rfl (by constructor)) ?_
     refine aa rfl (ou rfl rfl rfl) ?_
     refine aa rfl (ou rfl rfl rfl) ?_
     refine aa rfl (bf rfl (by constructor)) ?_
     refine aa rfl (bf rfl (by constructor)) ?_
     refine av ?_
     dsimp only [St.put]
     show ka _ _ _ _ _ _ _
     refine pu ok rfl ⟨rfl, rfl, zK, zN, zS, zK⟩ ?_
     refine pr fun K5 hK5 => ?_
     refine uey ?_
     refine qs rfl (ba rfl (by constructor)) ?_
     refine qs rfl (ba rfl (by constructor)) ?_
     try dsimp only [St.put]
     refine ue1 ok (by rw [hN]; exact hN2) rfl rfl rfl rfl (by rw [hcl]; show _ = [C.v (.int .i64 (dm p (sdN p k + i)))]; rw [hL]; rfl) ?_
     refine qs rfl (ei rfl rfl) ?_
     refine ue2 ?_
     dsimp only [St.put]
     refine hK5 _ _ ?_
     refine uz rfl (fun h => by cases h) (fun _ => ?_)
     refine uy ?_
     refine hK4 _ _ ?_
     refine k8 21 ?_
     refine zQ ?_
     refine uam ok rfl ?_
     dsimp only [FC.st]
     refine cp fun hlt => ?_
     dsimp only at hlt
     refine aw ?_
     first | refine aa rfl (cm rfl rfl rfl (by omega)) ?_ | refine aa rfl (il rfl rfl rfl) ?_
     refine aa rfl (ba rfl (by constructor)) ?_
     refine av ?_
     dsimp only [St.put]
     refine ⟨⟨rfl, rfl, zK, zN, zS, zK⟩, ?_⟩
     exact ⟨i + 1, by omega, by omega, rfl, ⟨⟨rfl, rfl⟩, zF, zB, zN, zX⟩⟩
    ·replace hc := of_decide_eq_false hc
     obtain rfl : i = (ec p (decide (k = 1))).length := by omega
     refine uao ?_
     refine hK2 _ _ ?_
     refine k8 10 ?_
     refine zQ ?_
     refine uam ok rfl ?_
     dsimp only [FC.st]
     refine cp fun hlt => ?_
     dsimp only at hlt
     refine aw ?_
     first | refine aa rfl (cm rfl rfl rfl (by omega)) ?_ | refine aa rfl (il rfl rfl rfl) ?_
     refine aa rfl (ba rfl (by constructor)) ?_
     refine av ?_
     dsimp only [St.put]
     refine ⟨⟨rfl, rfl, zK, zN, zS, zK⟩, ?_⟩
     exact ⟨k + 1, by omega, by omega, (za hk).symm, ⟨⟨rfl, rfl⟩, zF, zB, zN, zX⟩⟩
  ·replace hc := of_decide_eq_false hc
   obtain rfl : k = 2 := by omega
   refine uao ?_
   exact ⟨.inl rfl, rfl⟩
end Go.Proofs.YtgffhbbcpgdjjaaGreatDoor
namespace Go.AB
open Go Go.RowKit
open Go.AB.Enc (cells)
open Go.PB (bg aj PlaceD bn bq bp ck az ak dc ce dr dv)
theorem qb {α : Type} (d v : α) : atE 0 d v = v := rfl
theorem l6 {α : Type} {e : Int} (h : e ≠ 0) (d v : α) : atE e d v = d := by unfold atE; rw [decide_eq_false h]; rfl
theorem uef {p : ak} {e : Int} (h : e ≠ 0) : gt p e = e := by unfold gt; rw [decide_eq_false h]; rfl
theorem ul (p : ak) : gt p 0 = bif jt p then 0 else 8 := rfl
end Go.AB
namespace Go.Proofs.YtgffhbbcpgdjjaaGreatDoor
set_option maxRecDepth 10000
open Go.RowKit Go.AB
open Go.AB.Enc (cells)
open Go.PB (bg aj PlaceD bn bq bp ck az ak dc ce dr dv)
end Go.Proofs.YtgffhbbcpgdjjaaGreatDoor
namespace Go.AB
open Go Go.RowKit
open Go.AB.Enc (cells)
open Go.PB (bg aj PlaceD bn bq bp ck az ak dc ce dr dv)
instance : FlatV ce := ⟨fun x => [.int .i64 x.lo, .int .i64 x.hi], fun _ => rfl⟩
def k7 (x : az) : Bool := decide (200 < x.found.length) || decide (200 < x.well.length)
def oz (p : ak) : Bool := n2 p.text || decide (6 < p.firsts.length) || decide (6 < p.seconds.length) || decide (12 < p.pages.length) || p.pages.any k7
theorem um8 {p : ak} {n : Int} {j : Nat} {x : az} (h0 : e8 p n = 0) (hpo : mi p n = x) (hn : n = (j : Int)) (hk : (eb p.text x).length ≠ 0) : n1 p n = 0 ∧ oy p n = ual x (eb p.text x).length := by
 have hE : n1 p n = 0 := by unfold n1; rw [h0, hpo, decide_eq_false hk]; rfl
 exact ⟨hE, by unfold oy; rw [hE, hpo]; rfl⟩
end Go.AB
namespace Go.Proofs.YtgffhbbcpgdjjaaGreatDoor
set_option maxRecDepth 10000
open Go.RowKit Go.AB
open Go.AB.Enc (cells)
open Go.PB (bg aj PlaceD bn bq bp ck az ak dc ce dr dv)
theorem uh0 : Tryz.prog.underlying 52 = some (.struct (Tryz.prog.fieldsOf 52)) := by kernel_rfl
theorem ui4 : Tryz.prog.stoodInHeld 52 = false := by kernel_rfl
instance : EqT Tryz.prog 52 ce where
 guard op w x y xs ys := run_eqGuard_agg w op _ x y xs ys (by kernel_rfl)
 same w x y := by
  obtain ⟨a, b⟩ := x
  obtain ⟨a', b'⟩ := y
  simp only [FlatV.vals]
  rw [run_equalIn_agg _ _ _ _ _ uh0 ui4]
  by_cases h1 : a = a' <;> by_cases h2 : b = b' <;> simp [go_sem, h1, h2]
theorem uj7 (p : ak) : Pure Tryz.prog 33 [val p] (.v (.bool (oz p))) := by
 refine di Tryz.func33 rfl (fun m => .v) fun G nx => ?_
 simp only [Tryz.ntmps33, List.length_cons, List.length_nil, Nat.reduceAdd, Nat.reduceSub]
 refine cp fun hlt => ?_
 dsimp only at hlt
 refine yS fun _ K1 => ?_
 refine yR ?_
 try dsimp only [St.put]
 refine yB rfl rfl rfl ?_
 refine yA rfl rfl ?_
 refine yN ?_
 dsimp only [St.put]
 refine K1 _ ?_
 refine yS fun _ K2 => ?_
 refine dh 4 ?_
 refine zQ ?_
 refine l5 (X := Bool) (fun d => (n2 p.text || decide (6 < p.firsts.length) || decide (6 < p.seconds.length) || decide (12 < p.pages.length)) = d) (fun d => [(24, .v (.bool d))]) (fun d G' => G') rfl ?_ (fun _ _ _ _ h => .inl h) ?_ ?_
 ·rintro d hI
  exact zL
 ·refine yR ?_
  refine yF rfl rfl rfl rfl ?_
  try dsimp only [St.put]
  refine ae rfl (c := gp p.text) (jb (cs := cells p) rfl rfl (show 1 ≤ 4 by decide)) ?_
  try dsimp only [St.put]
  refine af rfl (bl rfl rfl rfl (up2 p.text) ?_)
  refine yM rfl rfl ?_
  refine er (fun hs => ?_) (fun hs => ?_)
  ·have h1 : n2 p.text = true := hs
   refine yK rfl ?_
   refine yK rfl ?_
   refine yK rfl ?_
   refine yK rfl ?_
   refine aa rfl (cn rfl rfl (by constructor)) ?_
   refine yM rfl rfl ?_
   refine yK rfl ?_
   refine yK rfl ?_
   refine yK rfl ?_
   refine yK rfl ?_
   refine aa rfl (cn rfl rfl (by constructor)) ?_
   refine yM rfl rfl ?_
   refine yK rfl ?_
   refine yK rfl ?_
   refine yK rfl ?_
   refine yK rfl ?_
   refine aa rfl (cn rfl rfl (by constructor)) ?_
   refine yN ?_
   dsimp only [St.put]
   refine ⟨_, ?_, ⟨⟨rfl, rfl⟩, zF, zB, zN, zX⟩⟩
   first
   | (simp [h1]; done)
   | (simp [h1, h2]; done)
   | (simp [h1, h2, h3]; done)
   | (simp [h1, h2, h3]; omega)
  have h1 : n2 p.text = false := hs
  refine yF rfl rfl rfl rfl ?_
  refine yL rfl rfl rfl ?_
  refine aa rfl (bj rfl rfl (List.length_map _)) ?_
  refine aa rfl (im rfl rfl rfl) ?_
  refine aa rfl (cv rfl rfl (by constructor)) ?_
  refine yM rfl rfl ?_
  refine er (fun hs => ?_) (fun hs => ?_)
  ·have h2 : 6 < p.firsts.length := by have := of_decide_eq_true hs; omega
   refine yK rfl ?_
   refine yK rfl ?_
   refine yK rfl ?_
   refine yK rfl ?_
   refine aa rfl (cn rfl rfl (by constructor)) ?_
   refine yM rfl rfl ?_
   refine yK rfl ?_
   refine yK rfl ?_
   refine yK rfl ?_
   refine yK rfl ?_
   refine aa rfl (cn rfl rfl (by constructor)) ?_
   refine yN ?_
   dsimp only [St.put]
   refine ⟨_, ?_, ⟨⟨rfl, rfl⟩, zF, zB, zN, zX⟩⟩
   first
   | (simp [h1]; done)
   | (simp [h1, h2]; done)
   | (simp [h1, h2, h3]; done)
   | (simp [h1, h2, h3]; omega)
  have h2 : ¬ 6 < p.firsts.length := by have := of_decide_eq_false hs; omega
  refine yF rfl rfl rfl rfl ?_
  refine yL rfl rfl rfl ?_
  refine aa rfl (bj rfl rfl (List.length_map _)) ?_
  refine aa rfl (im rfl rfl rfl) ?_
  refine aa rfl (cv rfl rfl (by constructor)) ?_
  refine yM rfl rfl ?_
  refine er (fun hs => ?_) (fun hs => ?_)
  ·have h3 : 6 < p.seconds.length := by have := of_decide_eq_true hs; omega
   refine yK rfl ?_
   refine yK rfl ?_
   refine yK rfl ?_
   refine yK rfl ?_
   refine aa rfl (cn rfl rfl (by constructor)) ?_
   refine yN ?_
   dsimp only [St.put]
   refine ⟨_, ?_, ⟨⟨rfl, rfl⟩, zF, zB, zN, zX⟩⟩
   first
   | (simp [h1]; done)
   | (simp [h1, h2]; done)
   | (simp [h1, h2, h3]; done)
   | (simp [h1, h2, h3]; omega)
  have h3 : ¬ 6 < p.seconds.length := by have := of_decide_eq_false hs; omega
  refine yF rfl rfl rfl rfl ?_
  refine yL rfl rfl rfl ?_
  refine aa rfl (bj rfl rfl (List.length_map _)) ?_
  refine aa rfl (im rfl rfl rfl) ?_
  refine aa rfl (cv rfl rfl (by constructor)) ?_
  refine yN ?_
  dsimp only [St.put]
  refine ⟨_, ?_, ⟨⟨rfl, rfl⟩, zF, zB, zN, zX⟩⟩
  first
  | (simp [h1]; done)
  | (simp [h1, h2]; done)
  | (simp [h1, h2, h3]; done)
  | (simp [h1, h2, h3]; omega)
 rintro d hst
 dsimp only at hst ⊢
 refine bd rfl (fun hc => ?_) (fun hc => ?_)
 ·rw [hc] at hst
  refine yS fun _ K4 => ?_
  refine yR ?_
  refine yA rfl rfl ?_
  refine yN ?_
  dsimp only [St.put]
  refine K4 _ ?_
  refine bc ?_
  refine bx rfl (by constructor) zN zS ?_
  exact vb (by unfold oz; rw [hst]; rfl)
 rw [hc] at hst
 have hpl : ¬ 12 < p.pages.length := fun h => by rw [decide_eq_true h, Bool.or_true] at hst; cases hst
 refine bi ?_
 refine K2 _ ?_
 refine yS fun _ K5 => ?_
 refine yS fun _ K6 => ?_
 refine yR ?_
 refine yA rfl rfl ?_
 refine yN ?_
 dsimp only [St.put]
 refine K6 _ ?_
 refine cb ?_
 refine dh 4 ?_
 refine zQ ?_
 refine du (G) zX ?_
 dsimp only
 refine dz (X := Nat) (fun i => i ≤ p.pages.length ∧ ∀ x ∈ p.pages.take i, k7 x = false) (fun i => p.pages.length - i) (fun i => [(3, .v (.int .i64 (i : Int)))]) (fun i G' => G') 0 rfl ?_ ?_ (fun _ _ h => h) ?_ ?_ ?_
 ·exact ⟨Nat.zero_le _, by simp⟩
 ·exact zF
 ·rintro i hI
  exact zL
 ·exact fun _ _ _ _ h => .inl h
 rintro i hI
 dsimp only at hI ⊢
 refine yS fun _ K7 => ?_
 refine yS fun _ K8 => ?_
 refine yR ?_
 refine yM rfl rfl ?_
 refine yF rfl rfl rfl rfl ?_
 refine yL rfl rfl rfl ?_
 refine aa rfl (bj rfl rfl (List.length_map _)) ?_
 refine aa rfl (c5 rfl rfl rfl) ?_
 refine yN ?_
 dsimp only [St.put]
 refine K8 _ ?_
 refine bd rfl (fun hc => ?_) (fun hc => ?_)
 ·replace hc := of_decide_eq_true hc
  obtain ⟨x, hx⟩ : ∃ x, p.pages[i]? = some x := d8 (by omega)
  refine bi ?_
  refine K7 _ ?_
  refine yS fun _ K9 => ?_
  refine cb ?_
  refine yS fun _ K10 => ?_
  refine yR ?_
  refine yF rfl rfl rfl rfl ?_
  refine yL rfl rfl rfl ?_
  refine yM rfl rfl ?_
  refine aa rfl (bk rfl rfl rfl rfl (bu (by assumption)) (Enc.len _)) ?_
  refine yF rfl rfl rfl rfl ?_
  refine yL rfl rfl rfl ?_
  refine aa rfl (bj rfl rfl (List.length_map _)) ?_
  refine aa rfl (im rfl rfl rfl) ?_
  refine yM rfl rfl ?_
  refine er (fun hs => ?_) (fun hs => ?_)
  ·have g1 : 200 < x.found.length := by have := of_decide_eq_true hs; omega
   refine yK rfl ?_
   refine yK rfl ?_
   refine yK rfl ?_
   refine yK rfl ?_
   refine yK rfl ?_
   refine yK rfl ?_
   refine yK rfl ?_
   refine yK rfl ?_
   refine aa rfl (cn rfl rfl (by constructor)) ?_
   refine yN ?_
   dsimp only [St.put]
   refine K10 _ ?_
   refine bd rfl (fun _ => ?_) (fun h => by cases h)
   have hgx : k7 x = true := by
    first
    | (simp [k7, g1]; done)
    | (have g2 : 200 < x.well.length := by (have := of_decide_eq_true hc; omega)
       simp [k7, g2])
   refine yS fun _ K11 => ?_
   refine yR ?_
   refine yA rfl rfl ?_
   refine yN ?_
   dsimp only [St.put]
   refine K11 _ ?_
   refine bc ?_
   refine bx rfl (by constructor) zN zS ?_
   exact vb (by
    have : p.pages.any k7 = true := List.any_eq_true.2 ⟨x, g5 hx, hgx⟩
    unfold oz; rw [this, Bool.or_true])
  have g1 : ¬ 200 < x.found.length := by have := of_decide_eq_false hs; omega
  refine yF rfl rfl rfl rfl ?_
  refine yL rfl rfl rfl ?_
  refine yM rfl rfl ?_
  refine aa rfl (bk rfl rfl rfl rfl (bu (by assumption)) (Enc.len _)) ?_
  refine yF rfl rfl rfl rfl ?_
  refine yL rfl rfl rfl ?_
  refine aa rfl (bj rfl rfl (List.length_map _)) ?_
  refine aa rfl (im rfl rfl rfl) ?_
  refine aa rfl (cv rfl rfl (by constructor)) ?_
  refine yN ?_
  dsimp only [St.put]
  refine K10 _ ?_
  refine bd rfl (fun hc => ?_) (fun hc => ?_)
  ·have hgx : k7 x = true := by
    first
    | (simp [k7, g1]; done)
    | (have g2 : 200 < x.well.length := by (have := of_decide_eq_true hc; omega)
       simp [k7, g2])
   refine yS fun _ K12 => ?_
   refine yR ?_
   refine yA rfl rfl ?_
   refine yN ?_
   dsimp only [St.put]
   refine K12 _ ?_
   refine bc ?_
   refine bx rfl (by constructor) zN zS ?_
   exact vb (by
    have : p.pages.any k7 = true := List.any_eq_true.2 ⟨x, g5 hx, hgx⟩
    unfold oz; rw [this, Bool.or_true])
  have hgx : k7 x = false := by
   have g2 : ¬ 200 < x.well.length := by (have := of_decide_eq_false hc; omega)
   simp [k7, g1, g2]
  refine bi ?_
  refine K9 _ ?_
  refine yR ?_
  refine yM rfl rfl ?_
  refine aa rfl (cm rfl rfl rfl (by omega)) ?_
  refine yA rfl rfl ?_
  refine yN ?_
  dsimp only [St.put]
  exact ⟨i + 1, by omega, ⟨by omega, ud2 (p := fun x : az => k7 x = false) hx hgx hI.2⟩, ⟨⟨rfl, rfl⟩, zF, zB, zN, zX⟩⟩
 replace hc := of_decide_eq_false hc
 have hall := hI.2
 rw [g9 (show p.pages.length ≤ i by omega)] at hall
 refine dq ?_
 refine K5 _ ?_
 refine yS fun _ K13 => ?_
 refine yR ?_
 refine yA rfl rfl ?_
 refine yN ?_
 dsimp only [St.put]
 refine K13 _ ?_
 refine bc ?_
 refine bx rfl (by constructor) zN zS ?_
 exact vb (by
  have : p.pages.any k7 = false := List.any_eq_false.2 fun x hx => by rw [hall x hx]; simp
  unfold oz; rw [hst, this]; rfl)
end Go.Proofs.YtgffhbbcpgdjjaaGreatDoor
namespace Go.AB
open Go Go.RowKit
open Go.AB.Enc (cells)
open Go.PB (bg aj PlaceD bn bq bp ck az ak dc ce dr dv)
def pgC (p : ak) (n : Int) : C := bif decide (e8 p n = 0) then jx p else .v (.pointer none)
theorem ukf (m : Nat) (p : ak) (n : Int) : C.low m (pgC p n) := by
 unfold pgC
 cases decide (e8 p n = 0)
 ·exact .v
 exact udm m p
theorem uc0 {p : ak} {n : Int} (h : e8 p n ≠ 0) : pgC p n = .v (.pointer none) := by unfold pgC; rw [decide_eq_false h]; rfl
theorem tw {p : ak} {n : Int} (h : e8 p n = 0) : pgC p n = .elem [lst p.text, lst p.firsts, lst p.seconds, lst p.pages, lst (p.pages.map fun x => (fh p.text x : Int)), lst (p.pages.map (et p.text)), lst (p.pages.map (eb p.text))] := by
 unfold pgC
 rw [decide_eq_true h, cond_true, wz (qx h).1]
theorem rz {α β : Type} {l : List α} {k : Nat} {x : α} (f : α → β) (h : l[k]? = some x) : (l.map f)[k]? = some (f x) := by rw [List.getElem?_map, h]; rfl
end Go.AB
namespace Go.Proofs.YtgffhbbcpgdjjaaGreatDoor
set_option maxRecDepth 10000
open Go Go.RowKit Go.AB
open Go.AB.Enc (cells)
open Go.PB (bg aj PlaceD bn bq bp ck az ak dc ce dr dv)
theorem ui3 (m : Nat) (b : Bool) : ∀ c ∈ oe b, C.low m c := fun c hc => by
 simp only [List.mem_cons, List.not_mem_nil, or_false] at hc
 rcases hc with rfl | rfl | rfl <;> exact .fn (by simp)
theorem rp (n : Nat) (p : ak) (m : Int) : fu n fm Tryz.prog 42 [val p, .v (.int .i64 m)] (.tup [pgC p m, .v (.int .i64 (e8 p m))]) := fun G nx hF hnx => by
 refine ix (G) (nx) Tryz.func42 rfl (.tup (ct (ukf _ _ _) (ct .v dj))) zN (fun hlt => zH) ?_
 simp only [Tryz.ntmps42, List.length_cons, List.length_nil, Nat.reduceAdd, Nat.reduceSub]
 refine cp fun hlt => ?_
 dsimp only at hlt
 refine yS fun _ K1 => ?_
 refine yR ?_
 try dsimp only [St.put]
 refine yB rfl rfl rfl ?_
 refine yA rfl rfl ?_
 refine yA rfl rfl ?_
 refine yN ?_
 dsimp only [St.put]
 refine K1 _ ?_
 refine yS fun _ K2 => ?_
 refine yR ?_
 refine yE rfl rfl rfl ?_
 try dsimp only [St.put]
 refine af rfl (eu rfl rfl rfl (oq n p) zG (by dsimp only [St.put]; omega) ?_)
 refine yM rfl rfl ?_
 refine yX rfl rfl rfl rfl ?_
 refine yX rfl rfl rfl rfl ?_
 refine yA rfl rfl ?_
 refine yA rfl rfl ?_
 refine yN ?_
 dsimp only [St.put]
 refine K2 _ ?_
 refine yS fun _ K3 => ?_
 refine yS fun _ K4 => ?_
 refine yR ?_
 refine yM rfl rfl ?_
 refine aa rfl (fq rfl rfl rfl) ?_
 refine yN ?_
 dsimp only [St.put]
 refine K4 _ ?_
 refine bd rfl (fun hc => ?_) (fun hc => ?_)
 ·have h0 : dg p ≠ 0 := j8 hc
  have hE : e8 p m = dg p := by simp [e8, h0]
  refine yS fun _ K5 => ?_
  refine yR ?_
  refine yM rfl rfl ?_
  refine yA rfl rfl ?_
  refine yA rfl rfl ?_
  refine yN ?_
  dsimp only [St.put]
  refine K5 _ ?_
  refine bc ?_
  refine jk rfl (by constructor) (by constructor) zN zS ?_ ?_
  ·rw [uc0 (by rw [hE]; exact h0)]
  rw [hE]
 have h0 : dg p = 0 := iy hc
 have hnp := (mx h0).1.np
 refine bi ?_
 refine K3 _ ?_
 refine yS fun _ K6 => ?_
 refine yS fun _ K7 => ?_
 refine yR ?_
 refine yF rfl rfl rfl rfl ?_
 refine yL rfl rfl rfl ?_
 refine aa rfl (bj rfl rfl (List.length_map _)) ?_
 refine aa rfl (ir rfl rfl rfl (by omega)) ?_
 refine yM rfl rfl ?_
 try dsimp only [St.put]
 refine af rfl (el rfl rfl rfl (by decide) (by decide) zR (by decide) ?_)
 try dsimp only [St.put]
 refine af rfl (bl rfl rfl rfl (nk _ _ [_]) ?_)
 refine aa rfl (ei rfl rfl) ?_
 refine yN ?_
 dsimp only [St.put]
 refine K7 _ ?_
 refine bd rfl (fun hc => ?_) (fun hc => ?_)
 ·have h1 : inB m 0 ((p.pages.length : Int) - 1) = false := by rw [gu] at hc; simpa using hc
  have hE : e8 p m = 2 := by simp [e8, h0, h1]
  refine yS fun _ K8 => ?_
  refine yR ?_
  refine yA rfl rfl ?_
  refine yA rfl rfl ?_
  refine yN ?_
  dsimp only [St.put]
  refine K8 _ ?_
  refine bc ?_
  refine jk rfl (by constructor) (by constructor) zN zS ?_ ?_
  ·rw [uc0 (by rw [hE]; decide)]
  rw [hE]
 have h1 : inB m 0 ((p.pages.length : Int) - 1) = true := by rw [gu] at hc; simpa using hc
 have hE : e8 p m = 0 := by simp [e8, h0, h1]
 refine bi ?_
 refine K6 _ ?_
 refine yS fun _ K9 => ?_
 refine yR ?_
 refine yM rfl rfl ?_
 refine yA rfl rfl ?_
 refine yA rfl rfl ?_
 refine yN ?_
 dsimp only [St.put]
 refine K9 _ ?_
 refine bc ?_
 refine jk rfl (by constructor) (by constructor) zN zS ?_ ?_
 ·unfold pgC; rw [decide_eq_true hE]; rfl
 rw [hE]
theorem uc4 (n : Nat) (p : ak) (m : Int) : fu n fm Tryz.prog 17 [val p, .v (.int .i64 m)] (.tup [.v (.int .i64 (n7 p m)), .v (.int .i64 (e8 p m))]) := fun G nx hF hnx => by
 refine ix (G) (nx) Tryz.func17 rfl (.tup (ct .v (ct .v dj))) zN (fun hlt => zH) ?_
 simp only [Tryz.ntmps17, List.length_cons, List.length_nil, Nat.reduceAdd, Nat.reduceSub]
 refine cp fun hlt => ?_
 dsimp only at hlt
 refine yS fun _ K1 => ?_
 refine yR ?_
 try dsimp only [St.put]
 refine yB rfl rfl rfl ?_
 refine yA rfl rfl ?_
 refine yA rfl rfl ?_
 refine yN ?_
 dsimp only [St.put]
 refine K1 _ ?_
 refine yS fun _ K2 => ?_
 refine yR ?_
 refine yE rfl rfl rfl ?_
 refine yM rfl rfl ?_
 try dsimp only [St.put]
 refine af rfl (eu rfl rfl rfl (rp n p m) zG (by dsimp only [St.put]; omega) ?_)
 refine yM rfl rfl ?_
 refine yX rfl rfl rfl rfl ?_
 refine yX rfl rfl rfl rfl ?_
 refine yA rfl rfl ?_
 refine yA rfl rfl ?_
 refine yN ?_
 dsimp only [St.put]
 refine K2 _ ?_
 refine yS fun _ K3 => ?_
 refine yS fun _ K4 => ?_
 refine yR ?_
 refine yM rfl rfl ?_
 refine aa rfl (fq rfl rfl rfl) ?_
 refine yN ?_
 dsimp only [St.put]
 refine K4 _ ?_
 refine bd rfl (fun hc => ?_) (fun hc => ?_)
 ·have h0 : e8 p m ≠ 0 := j8 hc
  have hV : n7 p m = 0 := by unfold n7; rw [l6 h0]
  refine yS fun _ K5 => ?_
  refine yR ?_
  refine yM rfl rfl ?_
  refine yA rfl rfl ?_
  refine yA rfl rfl ?_
  refine yN ?_
  dsimp only [St.put]
  refine K5 _ ?_
  refine bc ?_
  refine jk rfl (by constructor) (by constructor) zN zS ?_ ?_
  ·exact vi hV.symm
  rfl
 have h0 : e8 p m = 0 := iy hc
 obtain ⟨hc0, j, x, rfl, hx, hpo⟩ := qx h0
 have hw := rz (fun x => (fh p.text x : Int)) hx
 have hV : n7 p (j : Int) = (fh p.text x : Int) := by unfold n7; rw [h0, hpo]; rfl
 rw [tw h0]
 refine bi ?_
 refine K3 _ ?_
 refine yS fun _ K6 => ?_
 refine yR ?_
 refine yM rfl rfl ?_
 refine aa rfl (ku rfl rfl) ?_
 refine yF rfl rfl rfl rfl ?_
 refine yL rfl rfl rfl ?_
 refine yM rfl rfl ?_
 refine aa rfl (bk rfl rfl rfl rfl (bu (by assumption)) (Enc.len _)) ?_
 refine yL rfl rfl rfl ?_
 refine yA rfl rfl ?_
 refine yA rfl rfl ?_
 refine yN ?_
 dsimp only [St.put]
 refine K6 _ ?_
 refine bc ?_
 refine jk rfl (by constructor) (by constructor) zN zS ?_ ?_
 ·exact vi hV.symm
 exact vi h0.symm
theorem uc9 (n : Nat) (p : ak) (m : Int) : fu n fm Tryz.prog 18 [val p, .v (.int .i64 m)] (.tup [lst (pv p m), .v (.int .i64 (e8 p m))]) := fun G nx hF hnx => by
 refine ix (G) (nx) Tryz.func18 rfl (.tup (ct (co _ _) (ct .v dj))) zN (fun hlt => zH) ?_
 simp only [Tryz.ntmps18, List.length_cons, List.length_nil, Nat.reduceAdd, Nat.reduceSub]
 refine cp fun hlt => ?_
 dsimp only at hlt
 refine yS fun _ K1 => ?_
 refine yR ?_
 try dsimp only [St.put]
 refine yB rfl rfl rfl ?_
 refine yA rfl rfl ?_
 refine yA rfl rfl ?_
 refine yN ?_
 dsimp only [St.put]
 refine K1 _ ?_
 refine yS fun _ K2 => ?_
 refine yR ?_
 refine yE rfl rfl rfl ?_
 refine yM rfl rfl ?_
 try dsimp only [St.put]
 refine af rfl (eu rfl rfl rfl (rp n p m) zG (by dsimp only [St.put]; omega) ?_)
 refine yM rfl rfl ?_
 refine yX rfl rfl rfl rfl ?_
 refine yX rfl rfl rfl rfl ?_
 refine yA rfl rfl ?_
 refine yA rfl rfl ?_
 refine yN ?_
 dsimp only [St.put]
 refine K2 _ ?_
 refine yS fun _ K3 => ?_
 refine yS fun _ K4 => ?_
 refine yR ?_
 refine yM rfl rfl ?_
 refine aa rfl (fq rfl rfl rfl) ?_
 refine yN ?_
 dsimp only [St.put]
 refine K4 _ ?_
 refine bd rfl (fun hc => ?_) (fun hc => ?_)
 ·have h0 : e8 p m ≠ 0 := j8 hc
  have hV : pv p m = [] := by unfold pv; rw [l6 h0]
  refine yS fun _ K5 => ?_
  refine yR ?_
  refine yM rfl rfl ?_
  refine yA rfl rfl ?_
  refine yA rfl rfl ?_
  refine yN ?_
  dsimp only [St.put]
  refine K5 _ ?_
  refine bc ?_
  refine ii rfl (ep (by constructor)) (ep (by constructor)) zN zS ?_ ?_
  ·rw [hV]; exact zW
  exact zW
 have h0 : e8 p m = 0 := iy hc
 obtain ⟨hc0, j, x, rfl, hx, hpo⟩ := qx h0
 have hw := rz (et p.text) hx
 have hV : pv p (j : Int) = et p.text x := by unfold pv; rw [h0, hpo]; rfl
 rw [tw h0]
 refine bi ?_
 refine K3 _ ?_
 refine yS fun _ K6 => ?_
 refine yR ?_
 refine yM rfl rfl ?_
 refine aa rfl (ku rfl rfl) ?_
 refine yF rfl rfl rfl rfl ?_
 refine yL rfl rfl rfl ?_
 refine yM rfl rfl ?_
 refine aa rfl (bk rfl rfl rfl rfl (bu (by assumption)) (Enc.len _)) ?_
 refine yL rfl rfl rfl ?_
 refine yA rfl rfl ?_
 refine yA rfl rfl ?_
 refine yN ?_
 dsimp only [St.put]
 refine K6 _ ?_
 refine bc ?_
 refine ii rfl (ep (by constructor)) (ep (by constructor)) zN zS ?_ ?_
 ·rw [hV]; exact zW
 rw [h0]; exact zW
theorem uda (n : Nat) (p : ak) (m : Int) : fu n fm Tryz.prog 19 [val p, .v (.int .i64 m)] (.tup [lst (p9 p m), .v (.int .i64 (e8 p m))]) := fun G nx hF hnx => by
 refine ix (G) (nx) Tryz.func19 rfl (.tup (ct (co _ _) (ct .v dj))) zN (fun hlt => zH) ?_
 simp only [Tryz.ntmps19, List.length_cons, List.length_nil, Nat.reduceAdd, Nat.reduceSub]
 refine cp fun hlt => ?_
 dsimp only at hlt
 refine yS fun _ K1 => ?_
 refine yR ?_
 try dsimp only [St.put]
 refine yB rfl rfl rfl ?_
 refine yA rfl rfl ?_
 refine yA rfl rfl ?_
 refine yN ?_
 dsimp only [St.put]
 refine K1 _ ?_
 refine yS fun _ K2 => ?_
 refine yR ?_
 refine yE rfl rfl rfl ?_
 refine yM rfl rfl ?_
 try dsimp only [St.put]
 refine af rfl (eu rfl rfl rfl (rp n p m) zG (by dsimp only [St.put]; omega) ?_)
 refine yM rfl rfl ?_
 refine yX rfl rfl rfl rfl ?_
 refine yX rfl rfl rfl rfl ?_
 refine yA rfl rfl ?_
 refine yA rfl rfl ?_
 refine yN ?_
 dsimp only [St.put]
 refine K2 _ ?_
 refine yS fun _ K3 => ?_
 refine yS fun _ K4 => ?_
 refine yR ?_
 refine yM rfl rfl ?_
 refine aa rfl (fq rfl rfl rfl) ?_
 refine yN ?_
 dsimp only [St.put]
 refine K4 _ ?_
 refine bd rfl (fun hc => ?_) (fun hc => ?_)
 ·have h0 : e8 p m ≠ 0 := j8 hc
  have hV : p9 p m = [] := by unfold p9; rw [l6 h0]
  refine yS fun _ K5 => ?_
  refine yR ?_
  refine yM rfl rfl ?_
  refine yA rfl rfl ?_
  refine yA rfl rfl ?_
  refine yN ?_
  dsimp only [St.put]
  refine K5 _ ?_
  refine bc ?_
  refine ii rfl (ep (by constructor)) (ep (by constructor)) zN zS ?_ ?_
  ·rw [hV]; exact zW
  exact zW
 have h0 : e8 p m = 0 := iy hc
 obtain ⟨hc0, j, x, rfl, hx, hpo⟩ := qx h0
 have hw := rz (eb p.text) hx
 have hV : p9 p (j : Int) = eb p.text x := by unfold p9; rw [h0, hpo]; rfl
 rw [tw h0]
 refine bi ?_
 refine K3 _ ?_
 refine yS fun _ K6 => ?_
 refine yR ?_
 refine yM rfl rfl ?_
 refine aa rfl (ku rfl rfl) ?_
 refine yF rfl rfl rfl rfl ?_
 refine yL rfl rfl rfl ?_
 refine yM rfl rfl ?_
 refine aa rfl (bk rfl rfl rfl rfl (bu (by assumption)) (Enc.len _)) ?_
 refine yL rfl rfl rfl ?_
 refine yA rfl rfl ?_
 refine yA rfl rfl ?_
 refine yN ?_
 dsimp only [St.put]
 refine K6 _ ?_
 refine bc ?_
 refine ii rfl (ep (by constructor)) (ep (by constructor)) zN zS ?_ ?_
 ·rw [hV]; exact zW
 rw [h0]; exact zW
theorem uk3 (n : Nat) (p : ak) (b : Bool) (m : Int) : fu n fm Tryz.prog 16 [val p, .v (.bool b), .v (.int .i64 m)] (.tup [.v (.int .i64 (o7 p b m)), .v (.int .i64 (kp p b m))]) := fun G nx hF hnx => by
 refine ix (G) (nx) Tryz.func16 rfl (.tup (ct .v (ct .v dj))) zN (fun hlt => zH) ?_
 simp only [Tryz.ntmps16, List.length_cons, List.length_nil, Nat.reduceAdd, Nat.reduceSub]
 refine cp fun hlt => ?_
 dsimp only at hlt
 refine yS fun _ K1 => ?_
 refine yR ?_
 try dsimp only [St.put]
 refine yB rfl rfl rfl ?_
 refine yA rfl rfl ?_
 refine yA rfl rfl ?_
 refine yN ?_
 dsimp only [St.put]
 refine K1 _ ?_
 refine yS fun _ K2 => ?_
 refine yR ?_
 refine yE rfl rfl rfl ?_
 try dsimp only [St.put]
 refine af rfl (eu rfl rfl rfl (oq n p) zG (by dsimp only [St.put]; omega) ?_)
 refine yM rfl rfl ?_
 refine yX rfl rfl rfl rfl ?_
 refine yX rfl rfl rfl rfl ?_
 refine yA rfl rfl ?_
 refine yA rfl rfl ?_
 refine yN ?_
 dsimp only [St.put]
 refine K2 _ ?_
 refine yS fun _ K3 => ?_
 refine yS fun _ K4 => ?_
 refine yR ?_
 refine yM rfl rfl ?_
 refine aa rfl (fq rfl rfl rfl) ?_
 refine yN ?_
 dsimp only [St.put]
 refine K4 _ ?_
 refine bd rfl (fun hc => ?_) (fun hc => ?_)
 ·have h0 : dg p ≠ 0 := j8 hc
  have hE : kp p b m = dg p := by simp [kp, h0]
  refine yS fun _ K5 => ?_
  refine yR ?_
  refine yM rfl rfl ?_
  refine yA rfl rfl ?_
  refine yA rfl rfl ?_
  refine yN ?_
  dsimp only [St.put]
  refine K5 _ ?_
  refine bc ?_
  refine jk rfl (by constructor) (by constructor) zN zS ?_ ?_
  ·exact vi (by simp [o7, atE, hE, h0])
  exact vi hE.symm
 have h0 : dg p = 0 := iy hc
 obtain ⟨hok, _⟩ := mx h0
 have hn1 := hok.nf
 have hn2 := hok.ns
 have hsl : (ec p b).length ≤ 3 := by
  cases b
  ·exact hn1
  exact hn2
 rw [wz h0]
 refine bi ?_
 refine K3 _ ?_
 refine yS fun _ K6 => ?_
 refine yR ?_
 try dsimp only [St.put]
 refine aa rfl (udw (j := n) (k := 0) (m := 2) (sz := 3) rfl rfl zG rfl rfl (by decide) rfl) ?_
 try dsimp only [St.put]
 refine ae rfl (c := .agg (oe false)) (jb (cs := sidL) rfl rfl (show 3 ≤ 6 by decide)) ?_
 try dsimp only [St.put]
 refine af rfl (dt rfl ?_)
 try dsimp only [St.put]
 refine af rfl (da rfl rfl rfl zG rfl rfl (by rfl) ?_)
 refine yN ?_
 dsimp only [St.put]
 refine K6 _ ?_
 refine dh 13 ?_
 refine zQ ?_
 refine l5 (X := Nat) (fun wv => True) (fun wv => []) (fun wv G' => ay G nx (.box wv (oe b))) rfl ?_ ?_ ?_ ?_
 ·rintro wv hI
  exact zL
 ·rintro wv hI
  exact (by (repeat' (refine lu ?_ (by (try dsimp only); omega) ?_)); all_goals (first | exact ly zS | (repeat' (first | exact trivial | refine ⟨?_, ?_⟩ | exact .v | exact .any | refine .elem ?_ | exact co _ _ | exact f8 _ _ | exact ey _ _ | exact ge _ (by (try dsimp only); omega) | exact .box (by (try dsimp only); omega) | exact fp | exact dj | exact ui3 _ _ | refine gj ?_ ?_ | exact .arr (by (try dsimp only); omega) | exact .own (by (try dsimp only); omega) | exact .map (by (try dsimp only); omega) | exact ff _ | refine ct ?_ ?_ | exact co _ _))))
 ·refine yS fun _ K8 => ?_
  refine yR ?_
  refine yM rfl rfl ?_
  refine yN ?_
  dsimp only [St.put]
  refine K8 _ ?_
  refine bd rfl (fun hc => ?_) (fun hc => ?_)
  ·obtain rfl : b = true := hc
   have hyes : True := trivial
   refine yR ?_
   try dsimp only [St.put]
   refine aa rfl (udw (j := n) (k := 1) (m := 2) (sz := 3) rfl rfl zG rfl rfl (by decide) rfl) ?_
   try dsimp only [St.put]
   refine ae rfl (aq rfl rfl rfl) ?_
   try dsimp only [St.put]
   refine af rfl (da rfl rfl rfl zG rfl rfl (by rfl) ?_)
   refine yN ?_
   dsimp only [St.put]
   first
   | exact ⟨1 + 1, hyes, ⟨⟨rfl, rfl⟩, zF, zB, zN, zX⟩⟩
   | exact ⟨1, hno, ⟨⟨rfl, rfl⟩, zF, zB, zN, zX⟩⟩
  obtain rfl : b = false := hc
  have hno : True := trivial
  refine bi ?_
  first
  | exact ⟨1 + 1, hyes, ⟨⟨rfl, rfl⟩, zF, zB, zN, zX⟩⟩
  | exact ⟨1, hno, ⟨⟨rfl, rfl⟩, zF, zB, zN, zX⟩⟩
 rintro wv hI
 dsimp only at hI ⊢
 refine yS fun _ K9 => ?_
 refine yS fun _ K10 => ?_
 refine yR ?_
 refine aa rfl (cr rfl rfl) ?_
 try dsimp only [St.put]
 refine ae rfl (bz rfl rfl zG trivial (by first | rfl | assumption)) ?_
 refine yE rfl rfl rfl ?_
 try dsimp only [St.put]
 refine af rfl (bl rfl rfl rfl (pg b p) ?_)
 refine aa rfl (bj rfl rfl (List.length_map _)) ?_
 refine aa rfl (ir rfl rfl rfl (by omega)) ?_
 refine yM rfl rfl ?_
 try dsimp only [St.put]
 refine af rfl (el rfl rfl rfl (by decide) (by decide) zR (by decide) ?_)
 try dsimp only [St.put]
 refine af rfl (bl rfl rfl rfl (nk _ _ [_]) ?_)
 refine aa rfl (ei rfl rfl) ?_
 refine yN ?_
 dsimp only [St.put]
 refine K10 _ ?_
 refine bd rfl (fun hc => ?_) (fun hc => ?_)
 ·have h1 : inB m 0 (((ec p b).length : Int) - 1) = false := by rw [gu] at hc; simpa using hc
  have hE : kp p b m = 2 := by simp [kp, h0, h1]
  refine yS fun _ K11 => ?_
  refine yR ?_
  refine yA rfl rfl ?_
  refine yA rfl rfl ?_
  refine yN ?_
  dsimp only [St.put]
  refine K11 _ ?_
  refine bc ?_
  refine jk rfl (by constructor) (by constructor) zN zS ?_ ?_
  ·exact vi (by simp [o7, atE, hE])
  exact vi hE.symm
 have h1 : inB m 0 (((ec p b).length : Int) - 1) = true := by rw [gu] at hc; simpa using hc
 have hE : kp p b m = 0 := by simp [kp, h0, h1]
 obtain ⟨j, hj⟩ : ∃ j : Nat, m = (j : Int) := ⟨m.toNat, by have := inB_true.1 h1; omega⟩
 subst hj
 have hjl : j < (ec p b).length := by have := inB_true.1 h1; omega
 have hV : o7 p b (j : Int) = o8 p b j := by simp [o7, atE, hE]
 refine bi ?_
 refine K9 _ ?_
 refine yS fun _ K12 => ?_
 refine yR ?_
 refine yM rfl rfl ?_
 try dsimp only [St.put]
 refine ae rfl (ca rfl rfl zG trivial (by rfl)) ?_
 refine yM rfl rfl ?_
 try dsimp only [St.put]
 refine af rfl (bl rfl rfl rfl (uc2 p b j hok hjl) ?_)
 refine yM rfl rfl ?_
 refine yX rfl rfl rfl rfl ?_
 refine yX rfl rfl rfl rfl ?_
 refine yA rfl rfl ?_
 refine yA rfl rfl ?_
 refine yN ?_
 dsimp only [St.put]
 refine K12 _ ?_
 refine yS fun _ K13 => ?_
 refine yR ?_
 refine yM rfl rfl ?_
 refine yA rfl rfl ?_
 refine yA rfl rfl ?_
 refine yN ?_
 dsimp only [St.put]
 refine K13 _ ?_
 refine bc ?_
 refine jk rfl (by constructor) (by constructor) zN zS ?_ ?_
 ·exact vi hV.symm
 exact vi hE.symm
theorem uk0 (n : Nat) (p : ak) (m : Int) : fu n fm Tryz.prog 24 [val p, .v (.int .i64 m)] (.tup [val (oy p m), .v (.int .i64 (n1 p m))]) := fun G nx hF hnx => by
 refine ix (G) (nx) Tryz.func24 rfl (.tup (ct (ey _ _) (ct .v dj))) zN (fun hlt => zH) ?_
 simp only [Tryz.ntmps24, List.length_cons, List.length_nil, Nat.reduceAdd, Nat.reduceSub]
 refine cp fun hlt => ?_
 dsimp only at hlt
 refine yS fun _ K1 => ?_
 refine yR ?_
 try dsimp only [St.put]
 refine yB rfl rfl rfl ?_
 try dsimp only [St.put]
 refine af rfl (dt rfl ?_)
 refine yA rfl rfl ?_
 refine yN ?_
 dsimp only [St.put]
 refine K1 _ ?_
 refine yS fun _ K2 => ?_
 refine yR ?_
 refine yE rfl rfl rfl ?_
 refine yM rfl rfl ?_
 try dsimp only [St.put]
 refine af rfl (eu rfl rfl rfl (rp n p m) zG (by dsimp only [St.put]; omega) ?_)
 refine yM rfl rfl ?_
 refine yX rfl rfl rfl rfl ?_
 refine yX rfl rfl rfl rfl ?_
 refine yA rfl rfl ?_
 refine yA rfl rfl ?_
 refine yN ?_
 dsimp only [St.put]
 refine K2 _ ?_
 refine yS fun _ K3 => ?_
 refine yS fun _ K4 => ?_
 refine yR ?_
 refine yM rfl rfl ?_
 refine aa rfl (fq rfl rfl rfl) ?_
 refine yN ?_
 dsimp only [St.put]
 refine K4 _ ?_
 refine bd rfl (fun hc => ?_) (fun hc => ?_)
 ·have h0 : e8 p m ≠ 0 := j8 hc
  have hE : n1 p m = e8 p m := by unfold n1; rw [decide_eq_false h0]; rfl
  have hV : oy p m = ⟨0, 0⟩ := by unfold oy; rw [hE, l6 h0]
  refine yS fun _ K5 => ?_
  refine yR ?_
  refine aa rfl (ie rfl rfl) ?_
  refine yM rfl rfl ?_
  try dsimp only [St.put]
  refine af rfl (da rfl rfl rfl zG rfl rfl (by rfl) ?_)
  refine yA rfl rfl ?_
  refine yN ?_
  dsimp only [St.put]
  refine K5 _ ?_
  refine bc ?_
  refine ii rfl (i9 rfl zG (by rfl) zC rfl) (ep (by constructor)) zN zS ?_ ?_
  ·rw [hV]; exact zW
  rw [hE]; exact zW
 have h0 : e8 p m = 0 := iy hc
 obtain ⟨hc0, j, x, rfl, hx, hpo⟩ := qx h0
 obtain ⟨hok, _⟩ := mx hc0
 have hp := pageB_true.1 (hok.page j x hx)
 have hal := qc hok.text
 have hfl := px hp.found
 have hwl := px hp.well
 have hbl := ua6 p.text x
 have hw := rz (eb p.text) hx
 rw [tw h0]
 refine bi ?_
 refine K3 _ ?_
 refine yS fun _ K6 => ?_
 refine yR ?_
 refine yM rfl rfl ?_
 refine aa rfl (ku rfl rfl) ?_
 refine yF rfl rfl rfl rfl ?_
 refine yL rfl rfl rfl ?_
 refine yM rfl rfl ?_
 refine aa rfl (bk rfl rfl rfl rfl (bu (by assumption)) (Enc.len _)) ?_
 refine yL rfl rfl rfl ?_
 refine aa rfl (bj rfl rfl (List.length_map _)) ?_
 refine yA rfl rfl ?_
 refine yN ?_
 dsimp only [St.put]
 refine K6 _ ?_
 refine yS fun _ K7 => ?_
 refine yS fun _ K8 => ?_
 refine yR ?_
 refine yM rfl rfl ?_
 refine aa rfl (f3 rfl rfl rfl) ?_
 refine yN ?_
 dsimp only [St.put]
 refine K8 _ ?_
 refine bd rfl (fun hc => ?_) (fun hc => ?_)
 ·have hk : (eb p.text x).length = 0 := by have := of_decide_eq_true hc; omega
  have hE : n1 p (j : Int) = 6 := by unfold n1; rw [h0, hpo, decide_eq_true hk]; rfl
  have hV : oy p (j : Int) = ⟨0, 0⟩ := by unfold oy; rw [hE, l6 (by decide)]
  refine yS fun _ K9 => ?_
  refine yR ?_
  refine aa rfl (ie rfl rfl) ?_
  try dsimp only [St.put]
  refine af rfl (da rfl rfl rfl zG rfl rfl (by rfl) ?_)
  refine yA rfl rfl ?_
  refine yN ?_
  dsimp only [St.put]
  refine K9 _ ?_
  refine bc ?_
  refine ii rfl (i9 rfl zG (by rfl) zC rfl) (ep (by constructor)) zN zS ?_ ?_
  ·rw [hV]; exact zW
  rw [hE]; exact zW
 have hk : ¬ (eb p.text x).length = 0 := by have := of_decide_eq_false hc; omega
 obtain ⟨hE, hV⟩ := um8 h0 hpo rfl hk
 have hfw : x.found.length * x.well.length ≤ 600 * 600 := Nat.mul_le_mul (by omega) (by omega)
 have hfc := Int.natCast_mul x.found.length x.well.length
 have hjl := (List.getElem?_eq_some_iff.1 hx).1
 refine bi ?_
 refine K7 _ ?_
 refine yS fun _ K10 => ?_
 refine g8 [(0, none), (1, none), (2, none), (3, none), (4, none), (5, none), (6, none), (7, none), (8, none), (9, none), (10, none), (11, none), (12, none), (13, none), (14, none), (15, none)] (fun i => [].contains i) (fun i => [].contains i) (fun i => [0, 2, 3, 4, 6, 7, 9, 10, 11, 13, 14, 15].contains i) [] (by kernel_rfl) (by kernel_rfl) ?_
 refine ah rfl rfl rfl rfl (br rfl rfl rfl) ?_
 try dsimp only [St.put]
 refine ai rfl rfl rfl rfl (bh rfl rfl) ?_
 refine xM rfl rfl rfl rfl rfl ?_
 try dsimp only [St.put]
 refine ah rfl rfl rfl rfl (bk rfl rfl rfl rfl (bu (by assumption)) (Enc.len _)) ?_
 refine ah rfl rfl rfl rfl (br rfl rfl rfl) ?_
 try dsimp only [St.put]
 refine ai rfl rfl rfl rfl (bh rfl rfl) ?_
 refine ah rfl rfl rfl rfl (bj rfl rfl (List.length_map _)) ?_
 refine ah rfl rfl rfl rfl (br rfl rfl rfl) ?_
 try dsimp only [St.put]
 refine ai rfl rfl rfl rfl (bh rfl rfl) ?_
 refine xM rfl rfl rfl rfl rfl ?_
 try dsimp only [St.put]
 refine ah rfl rfl rfl rfl (bk rfl rfl rfl rfl (bu (by assumption)) (Enc.len _)) ?_
 refine ah rfl rfl rfl rfl (br rfl rfl rfl) ?_
 try dsimp only [St.put]
 refine ai rfl rfl rfl rfl (bh rfl rfl) ?_
 refine ah rfl rfl rfl rfl (bj rfl rfl (List.length_map _)) ?_
 refine ah rfl rfl rfl rfl (zz rfl rfl rfl (by omega)) ?_
 refine ah rfl rfl rfl rfl (bf rfl (by constructor)) ?_
 refine cz ?_
 dsimp only [St.put]
 rw [show (x.found.length : Int) * (x.well.length : Int) = ((x.found.length * x.well.length : Nat) : Int) from hfc.symm]
 obtain ⟨M, hM⟩ : ∃ M, x.found.length * x.well.length = M := ⟨_, rfl⟩
 obtain ⟨K, hK⟩ : ∃ K, (eb p.text x).length = K := ⟨_, rfl⟩
 have hV2 : oy p (j : Int) = ⟨(M : Int) / (K : Int), ((M : Int) + (K : Int) - 1) / (K : Int)⟩ := by
  rw [hV]
  unfold ual
  rw [hM, hK, Int.natCast_ediv, Int.natCast_ediv, show ((M + K - 1 : Nat) : Int) = (M : Int) + (K : Int) - 1 by omega]
 rw [hM] at hfw
 rw [hK] at hk hbl
 rw [hM, hK]
 refine K10 _ ?_
 refine yS fun _ K11 => ?_
 refine g8 [(0, none), (1, none), (2, none), (3, none), (4, none), (5, none), (6, none), (7, none), (8, none), (9, none), (10, none), (11, none)] (fun i => [10].contains i) (fun i => [10].contains i) (fun i => [0, 1, 2, 3, 4, 5, 6, 7, 8, 9, 11].contains i) [] (by kernel_rfl) (by kernel_rfl) ?_
 refine xM rfl rfl rfl rfl rfl ?_
 refine xM rfl rfl rfl rfl rfl ?_
 refine ah rfl rfl rfl rfl (ue rfl rfl rfl (by omega) (by omega)) ?_
 refine xM rfl rfl rfl rfl rfl ?_
 refine xM rfl rfl rfl rfl rfl ?_
 refine ah rfl rfl rfl rfl (cm rfl rfl rfl (by omega)) ?_
 refine ah rfl rfl rfl rfl (ir rfl rfl rfl (by omega)) ?_
 refine xM rfl rfl rfl rfl rfl ?_
 refine ah rfl rfl rfl rfl (ue rfl rfl rfl (by omega) (by omega)) ?_
 refine ah rfl rfl rfl rfl (ie rfl rfl) ?_
 refine j4 ?_
 try dsimp only [St.put]
 refine gg rfl rfl rfl rfl (da rfl rfl rfl zG rfl rfl (by rfl) ?_)
 refine eo rfl rfl rfl rfl (bf rfl (by constructor)) ?_
 refine j3 ?_
 dsimp only [St.put]
 refine K11 _ ?_
 refine bc ?_
 refine ii rfl (i9 rfl zG (by rfl) zC rfl) (ep (by constructor)) zN zS ?_ ?_
 ·rw [hV2]; exact zW
 rw [hE]; exact zW
end Go.Proofs.YtgffhbbcpgdjjaaGreatDoor
namespace Go.AB
open Go Go.RowKit
open Go.AB.Enc (cells)
open Go.PB (bg aj PlaceD bn bq bp ck az ak dc ce dr dv)
/-- who has read a page, of some sides -/
def pi (p : ak) (x : az) : Nat → List Int
 | 0 => []
 | k + 1 => pi p x k ++ bif decide (0 ≤ fy (decide (k = 1)) x) then [(sdN p k : Int) + fy (decide (k = 1)) x] else []
theorem uj2 (p : ak) (x : az) : pi p x 2 = dw p x := by
 show ([] ++ bif decide (0 ≤ x.fst) then [((0 : Nat) : Int) + x.fst] else []) ++ (bif decide (0 ≤ x.snd) then [(p.firsts.length : Int) + x.snd] else []) = dw p x
 rw [List.nil_append, show ((0 : Nat) : Int) + x.fst = x.fst by omega]
 rfl
theorem ucs (p : ak) (x : az) : ∀ k, (pi p x k).length ≤ k
 | 0 => Nat.le_refl _
 | k + 1 => by
  have := ucs p x k
  simp only [pi, List.length_append]
  cases decide (0 ≤ fy (decide (k = 1)) x)
  ·rw [cond_false]; simp; omega
  rw [cond_true]; simp; omega
theorem ul2 {α β : Type} {l : List α} {j : Nat} {x : α} (f : α → β) (h : l[j]? = some x) : (l.take (j + 1)).map f = (l.take j).map f ++ [f x] := by rw [List.take_add_one, h, Option.toList_some, List.map_append]; rfl
theorem umh {p : ak} : (!(dd (c4 p) (dm p)).any fun n => decide (n < 0)) = jt p := by
 rw [Bool.eq_iff_iff, Bool.not_eq_true', ← Bool.not_eq_true, List.any_eq_true]
 unfold jt dd
 rw [List.all_eq_true]
 constructor
 ·intro h i hi
  refine decide_eq_true ?_
  rcases Int.lt_or_le (dm p i) 0 with q | q
  ·exact absurd ⟨_, List.mem_map.2 ⟨i, hi, rfl⟩, decide_eq_true q⟩ h
  exact q
 rintro h ⟨z, hz, hl⟩
 obtain ⟨i, hi, rfl⟩ := List.mem_map.1 hz
 have := of_decide_eq_true (h i hi)
 have := of_decide_eq_true hl
 omega
end Go.AB
namespace Go.Proofs.YtgffhbbcpgdjjaaGreatDoor
set_option maxRecDepth 10000
open Go Go.RowKit Go.AB
open Go.AB.Enc (cells)
open Go.PB (bg aj PlaceD bn bq bp ck az ak dc ce dr dv)
theorem ujo (z : Int) : Pure Tryz.prog 82 [.v (.int .i64 z)] (.v (.bool (decide (z < 0)))) := by
 refine di Tryz.func82 rfl (fun m => .v) fun G nx => ?_
 simp only [Tryz.ntmps82, List.length_cons, List.length_nil, Nat.reduceAdd, Nat.reduceSub]
 refine cp fun hlt => ?_
 dsimp only at hlt
 refine yS fun _ K1 => ?_
 refine yR ?_
 refine yA rfl rfl ?_
 refine yN ?_
 dsimp only [St.put]
 refine K1 _ ?_
 refine yS fun _ K2 => ?_
 refine yR ?_
 refine yM rfl rfl ?_
 refine aa rfl (c5 rfl rfl rfl) ?_
 refine yA rfl rfl ?_
 refine yN ?_
 dsimp only [St.put]
 refine K2 _ ?_
 refine bc ?_
 refine bx rfl (by constructor) zN zS ?_
 rfl
theorem ume (p : ak) : Pure Tryz.prog 81 [.elem (kr p)] (.fn (.func 93) [.elem [.elem (kr p)]]) := by
 refine di Tryz.func81 rfl (fun m => (.fn (ct (.elem (ct (.elem (ct (co _ _) (ct (co _ _) (ct (co _ _) (ct (co _ _) (ct (co _ _) (ct (co _ _) (ct (co _ _) dj)))))))) dj)) dj))) fun G nx => ?_
 simp only [Tryz.ntmps81, List.length_cons, List.length_nil, Nat.reduceAdd, Nat.reduceSub]
 refine cp fun hlt => ?_
 dsimp only at hlt
 refine yS fun _ K1 => ?_
 refine yR ?_
 try dsimp only [St.put]
 refine yB rfl rfl rfl ?_
 refine yA rfl rfl ?_
 refine yN ?_
 dsimp only [St.put]
 refine K1 _ ?_
 refine yS fun _ K2 => ?_
 refine yR ?_
 refine aa rfl (pk rfl rfl) ?_
 refine yA rfl rfl ?_
 refine yN ?_
 dsimp only [St.put]
 refine K2 _ ?_
 refine bc ?_
 refine bx rfl (by constructor) zN zS ?_
 rfl
set_option maxHeartbeats 2000000 in
theorem ukv (n : Nat) (p : ak) (h : gh p) : fu n fm Tryz.prog 63 [.elem (kr p)] (.tup [val (gq p (dm p) (d9 p)), .v (.bool (jt p))]) := fun G nx hF hnx => by
 refine ix (G) (nx) Tryz.func63 rfl (.tup (ct (ey _ _) (ct .v dj))) zN (fun hlt => zH) ?_
 simp only [Tryz.ntmps63, List.length_cons, List.length_nil, Nat.reduceAdd, Nat.reduceSub]
 refine cp fun hlt => ?_
 dsimp only at hlt
 have hn1 := h.nf
 have hn2 := h.ns
 have hnp := h.np
 have hnr : c4 p = p.firsts.length + p.seconds.length := rfl
 have hal := qc h.text
 refine yS fun _ K1 => ?_
 refine yR ?_
 try dsimp only [St.put]
 refine af rfl (dt rfl ?_)
 refine yA rfl rfl ?_
 refine yN ?_
 dsimp only [St.put]
 refine K1 _ ?_
 refine yS fun _ K2 => ?_
 refine yR ?_
 try dsimp only [St.put]
 refine af rfl (dt rfl ?_)
 refine yN ?_
 dsimp only [St.put]
 refine K2 _ ?_
 refine sl (nx + 1) 0 _ _ 3 1 zG rfl (by decide) ?_
 refine sl (nx + 1) 1 _ _ 3 1 zG rfl (by decide) ?_
 refine sl (nx + 1) 2 _ _ 33 1 zG rfl (by decide) ?_
 dsimp only [List.set_cons_zero, List.set_cons_succ]
 refine yS fun _ K3 => ?_
 refine yS fun _ K4 => ?_
 refine yR ?_
 refine yM rfl rfl ?_
 try dsimp only [St.put]
 refine af rfl (bl rfl rfl rfl (ume p) ?_)
 refine yN ?_
 dsimp only [St.put]
 refine K4 _ ?_
 refine cb ?_
 refine dh 15 ?_
 refine zQ ?_
 refine du ((ay (ay (ay (ay (ay G nx (.box 0 [.list [] .nil, .list [] .nil, .list [] .nil])) (nx + 1) (.box (0) [.list ((dd 0 (dm p)).map cells) (.tip (nx + 1 + 1)), .list ((dd 0 (d9 p)).map cells) (.tip (nx + 1 + 1 + 1)), .list (((p.pages.take 0).map (dw p)).map cells) (.tip (nx + 1 + 1 + 1 + 1))])) (nx + 1 + 1) (.tip (dd 0 (dm p)).length 3 1)) (nx + 1 + 1 + 1) (.tip (dd 0 (d9 p)).length 3 1)) (nx + 1 + 1 + 1 + 1) (.tip ((p.pages.take 0).map (dw p)).length 33 1))) zX ?_
 dsimp only
 refine ugm [15] (fun k => (ay (ay (ay (ay (ay G nx (.box 0 [.list [] .nil, .list [] .nil, .list [] .nil])) (nx + 1) (.box (k) [.list ((dd k (dm p)).map cells) (.tip (nx + 1 + 1)), .list ((dd 0 (d9 p)).map cells) (.tip (nx + 1 + 1 + 1)), .list (((p.pages.take 0).map (dw p)).map cells) (.tip (nx + 1 + 1 + 1 + 1))])) (nx + 1 + 1) (.tip (dd k (dm p)).length 3 1)) (nx + 1 + 1 + 1) (.tip (dd 0 (d9 p)).length 3 1)) (nx + 1 + 1 + 1 + 1) (.tip ((p.pages.take 0).map (dw p)).length 33 1))) (fun k => [(15, .v (.int .i64 (dm p k)))]) (umf n p h) (fun k => zG) (by (try dsimp only); omega) rfl rfl (fun _ => rfl) ?_ ?_ ?_ (fun lr k hrk => ?_) ?_
 ·intro k
  rfl
 ·exact zX
 ·intro k
  exact zH
 ·have hll := ju k (dm p)
  refine yR ?_
  refine yA rfl rfl ?_
  refine yN ?_
  dsimp only [St.put]
  show AW _ _ _ _ _
  refine cb ?_
  refine yR ?_
  refine aa rfl (cr rfl rfl) ?_
  try dsimp only [St.put]
  refine ae rfl (bz rfl rfl zG trivial (by first | rfl | assumption)) ?_
  refine yM rfl rfl ?_
  try dsimp only [St.put]
  refine af rfl (el rfl rfl rfl (by decide) (by decide) zR (by decide) ?_)
  try dsimp only [St.put]
  refine af rfl (l4 ([dm p k]) rfl rfl zG zE rfl rfl zA ?_ zA)
  refine aa rfl (cr rfl rfl) ?_
  try dsimp only [St.put]
  refine af rfl (g7 rfl rfl rfl zG (by constructor) rfl zO ?_)
  refine yN ?_
  dsimp only [St.put]
  rw [← yw k (dm p)]
  exact zX
 dsimp only
 refine K3 _ ?_
 refine yS fun _ K5 => ?_
 refine yS fun _ K6 => ?_
 refine yR ?_
 refine yM rfl rfl ?_
 refine aa rfl (ku rfl rfl) ?_
 refine yF rfl rfl rfl rfl ?_
 refine yF rfl rfl rfl rfl ?_
 refine yL rfl rfl rfl ?_
 refine aa rfl (bj rfl rfl (List.length_map _)) ?_
 refine yM rfl rfl ?_
 refine yN ?_
 dsimp only [St.put]
 refine K6 _ ?_
 refine cb ?_
 refine dh 29 ?_
 refine zQ ?_
 refine du ((ay (ay (ay (ay (ay G nx (.box 0 [.list [] .nil, .list [] .nil, .list [] .nil])) (nx + 1) (.box ((c4 p)) [.list ((dd (c4 p) (dm p)).map cells) (.tip (nx + 1 + 1)), .list ((dd 0 (d9 p)).map cells) (.tip (nx + 1 + 1 + 1)), .list (((p.pages.take 0).map (dw p)).map cells) (.tip (nx + 1 + 1 + 1 + 1))])) (nx + 1 + 1) (.tip (dd (c4 p) (dm p)).length 3 1)) (nx + 1 + 1 + 1) (.tip (dd 0 (d9 p)).length 3 1)) (nx + 1 + 1 + 1 + 1) (.tip ((p.pages.take 0).map (dw p)).length 33 1))) zX ?_
 dsimp only
 refine dz (X := Nat) (fun j => j ≤ p.pages.length) (fun j => p.pages.length - j) (fun j => [(6, .any), (7, .any), (8, .any), (9, .any), (10, .any), (11, .any), (12, .any), (28, .v (.int .i64 (j : Int)))]) (fun j G' => (ay (ay (ay (ay (ay G nx (.box 0 [.list [] .nil, .list [] .nil, .list [] .nil])) (nx + 1) (.box ((c4 p + 2 * j)) [.list ((dd (c4 p) (dm p)).map cells) (.tip (nx + 1 + 1)), .list ((dd j (d9 p)).map cells) (.tip (nx + 1 + 1 + 1)), .list (((p.pages.take j).map (dw p)).map cells) (.tip (nx + 1 + 1 + 1 + 1))])) (nx + 1 + 1) (.tip (dd (c4 p) (dm p)).length 3 1)) (nx + 1 + 1 + 1) (.tip (dd j (d9 p)).length 3 1)) (nx + 1 + 1 + 1 + 1) (.tip ((p.pages.take j).map (dw p)).length 33 1))) 0 rfl ?_ ?_ ?_ ?_ ?_ ?_
 ·exact Nat.zero_le _
 ·exact zF
 ·exact zX
 ·rintro j hI
  exact zL
 ·rintro j hI
  exact zH
 rintro j hJ
 dsimp only at hJ ⊢
 refine yS fun _ K7 => ?_
 refine yR ?_
 refine aa rfl (c5 rfl rfl rfl) ?_
 refine yN ?_
 dsimp only [St.put]
 refine K7 _ ?_
 refine yS fun _ K8 => ?_
 refine bd rfl (fun hc => ?_) (fun hc => ?_)
 ·replace hc := of_decide_eq_true hc
  obtain ⟨x, hx⟩ : ∃ x, p.pages[j]? = some x := d8 (by omega)
  have hw1 : (p.pages.map fun x => (fh p.text x : Int))[j]? = some (fh p.text x : Int) := rz (fun x => (fh p.text x : Int)) hx
  have hw2 := rz (et p.text) hx
  have hgl := u6 p.text x
  have hwx := yk p.text x
  have hll := ju j (d9 p)
  have hp := pageB_true.1 (h.page j x hx)
  have hp1 := hp.fst
  have hp2 := hp.snd
  have hll2 : ((p.pages.take j).map (dw p)).length ≤ 8 := by rw [List.length_map, List.length_take]; omega
  refine bi ?_
  refine K8 _ ?_
  refine yS fun _ K9 => ?_
  refine cb ?_
  refine yS fun _ K10 => ?_
  refine yR ?_
  refine yM rfl rfl ?_
  refine aa rfl (bk rfl rfl rfl rfl (bu (by assumption)) (Enc.len _)) ?_
  refine yE rfl rfl rfl ?_
  try dsimp only [St.put]
  refine af rfl (dt rfl ?_)
  refine yA rfl rfl ?_
  try dsimp only [St.put]
  refine af rfl (da rfl rfl rfl zG rfl rfl (by rfl) ?_)
  refine yN ?_
  dsimp only [St.put]
  refine K10 _ ?_
  refine gl (i := 7) rfl zG zC ?_
  dsimp only
  refine yS fun _ K11 => ?_
  refine g8 [(0, none), (1, none), (2, none), (3, none), (4, none), (5, none), (6, none), (7, none), (8, none), (9, none), (10, none), (11, none), (12, none), (13, none), (14, none), (15, none), (16, none), (17, none), (18, none), (19, none), (20, none), (21, none)] (fun i => [19, 21].contains i) (fun i => [18, 19, 21].contains i) (fun i => [0, 2, 3, 4, 6, 7, 9, 10, 11, 13, 14, 16, 17, 20].contains i) [nx + 1] (by kernel_rfl) (by kernel_rfl) ?_
  refine ah rfl rfl rfl rfl (cr rfl rfl) ?_
  try dsimp only [St.put]
  refine ai rfl rfl rfl rfl (bz rfl rfl zG (by simp) (by first | rfl | assumption)) ?_
  refine xM rfl rfl rfl rfl rfl ?_
  refine ah rfl rfl rfl rfl (ku rfl rfl) ?_
  refine ah rfl rfl rfl rfl (br rfl rfl rfl) ?_
  try dsimp only [St.put]
  refine ai rfl rfl rfl rfl (bh rfl rfl) ?_
  refine xM rfl rfl rfl rfl rfl ?_
  try dsimp only [St.put]
  refine ah rfl rfl rfl rfl (bk rfl rfl rfl rfl (bu (by assumption)) (Enc.len _)) ?_
  try dsimp only [St.put]
  refine ai rfl rfl rfl rfl (bh rfl rfl) ?_
  refine xM rfl rfl rfl rfl rfl ?_
  refine ah rfl rfl rfl rfl (ku rfl rfl) ?_
  refine ah rfl rfl rfl rfl (br rfl rfl rfl) ?_
  try dsimp only [St.put]
  refine ai rfl rfl rfl rfl (bh rfl rfl) ?_
  refine xM rfl rfl rfl rfl rfl ?_
  try dsimp only [St.put]
  refine ah rfl rfl rfl rfl (bk rfl rfl rfl rfl (bu (by assumption)) (Enc.len _)) ?_
  try dsimp only [St.put]
  refine ai rfl rfl rfl rfl (bh rfl rfl) ?_
  refine ah rfl rfl rfl rfl (bj rfl rfl (List.length_map _)) ?_
  refine ah rfl rfl rfl rfl (ir rfl rfl rfl (by omega)) ?_
  refine j4 ?_
  try dsimp only [St.put]
  refine lg rfl rfl rfl (el rfl rfl rfl (by decide) (by decide) zR (by decide) ⟨zD, ?_⟩)
  try dsimp only [St.put]
  refine gg rfl rfl rfl rfl (l4 ([(fh p.text x : Int) - ((et p.text x).length : Int)]) rfl rfl zG zE rfl rfl zA ?_ zA)
  refine eo rfl rfl rfl rfl (cr rfl rfl) ?_
  try dsimp only [St.put]
  refine gg rfl rfl rfl rfl (g7 rfl rfl rfl zG (by constructor) rfl zO ?_)
  refine j3 ?_
  dsimp only [St.put]
  have e := yw j (d9 p)
  rw [show d9 p j = (fh p.text x : Int) - ((et p.text x).length : Int) from ukm hx _] at e
  simp only [← e]
  refine K11 _ ?_
  refine yS fun _ K12 => ?_
  refine yR ?_
  refine yA rfl rfl ?_
  refine yN ?_
  dsimp only [St.put]
  refine K12 _ ?_
  refine qw 8 3 1 rfl (by decide) ?_
  dsimp only [List.set_cons_zero, List.set_cons_succ]
  refine yS fun _ K13 => ?_
  refine yR ?_
  refine yA rfl rfl ?_
  refine yN ?_
  dsimp only [St.put]
  refine K13 _ ?_
  refine yS fun _ K14 => ?_
  refine yS fun _ K15 => ?_
  refine yR ?_
  try dsimp only [St.put]
  refine ae rfl (cd (n := 6) (m := n) rfl rfl zG rfl) ?_
  refine yM rfl rfl ?_
  refine yN ?_
  dsimp only [St.put]
  refine K15 _ ?_
  refine cb ?_
  refine dh 56 ?_
  refine zQ ?_
  refine du (ay ((ay (ay (ay (ay (ay G nx (.box 0 [.list [] .nil, .list [] .nil, .list [] .nil])) (nx + 1) (.box ((c4 p + 2 * j + 1)) [.list ((dd (c4 p) (dm p)).map cells) (.tip (nx + 1 + 1)), .list ((dd (j + 1) (d9 p)).map cells) (.tip (nx + 1 + 1 + 1)), .list (((p.pages.take j).map (dw p)).map cells) (.tip (nx + 1 + 1 + 1 + 1))])) (nx + 1 + 1) (.tip (dd (c4 p) (dm p)).length 3 1)) (nx + 1 + 1 + 1) (.tip (dd (j + 1) (d9 p)).length 3 1)) (nx + 1 + 1 + 1 + 1) (.tip ((p.pages.take j).map (dw p)).length 33 1))) (nx + 1 + 1 + 1 + 1 + 1 + 1) (.tip 0 3 1)) zX ?_
  dsimp only
  refine dz (X := Nat) (fun k => k ≤ 2) (fun k => 2 - k) (fun k => [(8, .list ((pi p x k).map cells) (.tip (nx + 1 + 1 + 1 + 1 + 1 + 1))), (9, .v (.int .i64 (sdN p k : Int))), (11, .any), (12, .any), (55, .v (.int .i64 (k : Int)))]) (fun k G' => ay ((ay (ay (ay (ay (ay G nx (.box 0 [.list [] .nil, .list [] .nil, .list [] .nil])) (nx + 1) (.box ((c4 p + 2 * j + 1)) [.list ((dd (c4 p) (dm p)).map cells) (.tip (nx + 1 + 1)), .list ((dd (j + 1) (d9 p)).map cells) (.tip (nx + 1 + 1 + 1)), .list (((p.pages.take j).map (dw p)).map cells) (.tip (nx + 1 + 1 + 1 + 1))])) (nx + 1 + 1) (.tip (dd (c4 p) (dm p)).length 3 1)) (nx + 1 + 1 + 1) (.tip (dd (j + 1) (d9 p)).length 3 1)) (nx + 1 + 1 + 1 + 1) (.tip ((p.pages.take j).map (dw p)).length 33 1))) (nx + 1 + 1 + 1 + 1 + 1 + 1) (.tip (pi p x k).length 3 1)) 0 rfl ?_ ?_ ?_ ?_ ?_ ?_
  ·exact Nat.zero_le _
  ·exact zF
  ·exact zX
  ·rintro k hI
   exact zL
  ·rintro k hI
   exact zH
  rintro k hK
  dsimp only at hK ⊢
  refine yS fun _ K16 => ?_
  refine yR ?_
  refine aa rfl (c5 rfl rfl rfl) ?_
  refine yN ?_
  dsimp only [St.put]
  refine K16 _ ?_
  refine yS fun _ K17 => ?_
  refine bd rfl (fun hc => ?_) (fun hc => ?_)
  ·replace hc := of_decide_eq_true hc
   have hk : k < 2 := by omega
   have hsd : sdN p k ≤ 3 ∧ (ec p (decide (k = 1))).length ≤ 3 ∧ -1 ≤ fy (decide (k = 1)) x ∧ fy (decide (k = 1)) x ≤ 3 := by
    have : k = 0 ∨ k = 1 := by omega
    rcases this with rfl | rfl
    ·exact ⟨Nat.zero_le _, hn1, by show -1 ≤ x.fst; omega, by show x.fst ≤ 3; omega⟩
    exact ⟨hn1, hn2, by show -1 ≤ x.snd; omega, by show x.snd ≤ 3; omega⟩
   have hst : pi p x (k + 1) = pi p x k ++ bif decide (0 ≤ fy (decide (k = 1)) x) then [(sdN p k : Int) + fy (decide (k = 1)) x] else [] := rfl
   have hrl := ucs p x k
   refine bi ?_
   refine K17 _ ?_
   refine yS fun _ K18 => ?_
   refine cb ?_
   refine yS fun _ K19 => ?_
   refine yR ?_
   refine aa rfl (w8 (k := k) (m := 2) (sz := 3) rfl rfl rfl rfl hk (wa hk)) ?_
   try dsimp only [St.put]
   refine af rfl (dt rfl ?_)
   try dsimp only [St.put]
   refine af rfl (da rfl rfl rfl zG rfl rfl (by rfl) ?_)
   refine yN ?_
   dsimp only [St.put]
   refine K19 _ ?_
   refine gl (i := 11) rfl zG zC ?_
   dsimp only
   refine yS fun _ K20 => ?_
   refine yS fun _ K21 => ?_
   refine yR ?_
   refine yF rfl rfl rfl rfl ?_
   refine yL rfl rfl rfl ?_
   refine yE rfl rfl rfl ?_
   try dsimp only [St.put]
   refine af rfl (bl rfl rfl rfl (zb (decide (k = 1)) x) ?_)
   refine yA rfl rfl ?_
   refine yN ?_
   dsimp only [St.put]
   refine K21 _ ?_
   refine yS fun _ K22 => ?_
   refine yR ?_
   refine yM rfl rfl ?_
   refine aa rfl (kx rfl rfl rfl) ?_
   refine yN ?_
   dsimp only [St.put]
   refine K22 _ ?_
   refine bd rfl (fun hc => ?_) (fun hc => ?_)
   ·have hyes : 0 ≤ fy (decide (k = 1)) x := of_decide_eq_true hc
    refine yR ?_
    refine yM rfl rfl ?_
    refine yM rfl rfl ?_
    refine yM rfl rfl ?_
    refine aa rfl (cm rfl rfl rfl (by omega)) ?_
    try dsimp only [St.put]
    refine af rfl (el rfl rfl rfl (by decide) (by decide) zR (by decide) ?_)
    try dsimp only [St.put]
    refine af rfl (l4 ([(sdN p k : Int) + fy (decide (k = 1)) x]) rfl rfl zG zE rfl rfl zA ?_ zA)
    refine yA rfl rfl ?_
    refine yN ?_
    dsimp only [St.put]
    refine K20 _ ?_
    refine g8 [(0, none), (1, none), (2, none), (3, none), (4, none), (5, none), (6, none), (7, none), (8, none), (9, none), (10, none)] (fun i => [7].contains i) (fun i => [7].contains i) (fun i => [0, 1, 3, 4, 5, 8, 9, 10].contains i) [] (by kernel_rfl) (by kernel_rfl) ?_
    refine xM rfl rfl rfl rfl rfl ?_
    refine ah rfl rfl rfl rfl (br rfl rfl rfl) ?_
    try dsimp only [St.put]
    refine ai rfl rfl rfl rfl (bh rfl rfl) ?_
    refine xM rfl rfl rfl rfl rfl ?_
    refine ah rfl rfl rfl rfl (ku rfl rfl) ?_
    refine ah rfl rfl rfl rfl (br rfl rfl rfl) ?_
    try dsimp only [St.put]
    refine ai rfl rfl rfl rfl (c := val p) (jb (cs := kr p) rfl rfl (show 4 ≤ 7 by decide)) ?_
    refine j4 ?_
    try dsimp only [St.put]
    refine gg rfl rfl rfl rfl (bl rfl rfl rfl (pg (decide (k = 1)) p) ?_)
    refine eo rfl rfl rfl rfl (bj rfl rfl (List.length_map _)) ?_
    refine eo rfl rfl rfl rfl (cm rfl rfl rfl (by omega)) ?_
    refine eo rfl rfl rfl rfl (bf rfl (by constructor)) ?_
    refine j3 ?_
    dsimp only [St.put]
    refine K18 _ ?_
    refine yR ?_
    refine aa rfl (cm rfl rfl rfl (by omega)) ?_
    refine yM rfl rfl ?_
    refine yN ?_
    dsimp only [St.put]
    rw [show ((sdN p k : Nat) : Int) + ((ec p (decide (k = 1))).length : Int) = ((sdN p (k + 1) : Nat) : Int) by rw [za hk]; omega]
    first
    | (have z : 0 ≤ fy (decide (k = 1)) x := hyes
       rw [decide_eq_true z, cond_true] at hst
       rw [← hst]
       exact ⟨k + 1, by omega, by omega, ⟨⟨rfl, rfl⟩, zF, zB, zN, zX⟩⟩)
    | (have z : ¬ 0 ≤ fy (decide (k = 1)) x := hno
       rw [decide_eq_false z, cond_false, List.append_nil] at hst
       rw [← hst]
       exact ⟨k + 1, by omega, by omega, ⟨⟨rfl, rfl⟩, zF, zB, zN, zX⟩⟩)
   have hno : ¬ 0 ≤ fy (decide (k = 1)) x := of_decide_eq_false hc
   refine bi ?_
   refine K20 _ ?_
   refine g8 [(0, none), (1, none), (2, none), (3, none), (4, none), (5, none), (6, none), (7, none), (8, none), (9, none), (10, none)] (fun i => [7].contains i) (fun i => [7].contains i) (fun i => [0, 1, 3, 4, 5, 8, 9, 10].contains i) [] (by kernel_rfl) (by kernel_rfl) ?_
   refine xM rfl rfl rfl rfl rfl ?_
   refine ah rfl rfl rfl rfl (br rfl rfl rfl) ?_
   try dsimp only [St.put]
   refine ai rfl rfl rfl rfl (bh rfl rfl) ?_
   refine xM rfl rfl rfl rfl rfl ?_
   refine ah rfl rfl rfl rfl (ku rfl rfl) ?_
   refine ah rfl rfl rfl rfl (br rfl rfl rfl) ?_
   try dsimp only [St.put]
   refine ai rfl rfl rfl rfl (c := val p) (jb (cs := kr p) rfl rfl (show 4 ≤ 7 by decide)) ?_
   refine j4 ?_
   try dsimp only [St.put]
   refine gg rfl rfl rfl rfl (bl rfl rfl rfl (pg (decide (k = 1)) p) ?_)
   refine eo rfl rfl rfl rfl (bj rfl rfl (List.length_map _)) ?_
   refine eo rfl rfl rfl rfl (cm rfl rfl rfl (by omega)) ?_
   refine eo rfl rfl rfl rfl (bf rfl (by constructor)) ?_
   refine j3 ?_
   dsimp only [St.put]
   refine K18 _ ?_
   refine yR ?_
   refine aa rfl (cm rfl rfl rfl (by omega)) ?_
   refine yM rfl rfl ?_
   refine yN ?_
   dsimp only [St.put]
   rw [show ((sdN p k : Nat) : Int) + ((ec p (decide (k = 1))).length : Int) = ((sdN p (k + 1) : Nat) : Int) by rw [za hk]; omega]
   first
   | (have z : 0 ≤ fy (decide (k = 1)) x := hyes
      rw [decide_eq_true z, cond_true] at hst
      rw [← hst]
      exact ⟨k + 1, by omega, by omega, ⟨⟨rfl, rfl⟩, zF, zB, zN, zX⟩⟩)
   | (have z : ¬ 0 ≤ fy (decide (k = 1)) x := hno
      rw [decide_eq_false z, cond_false, List.append_nil] at hst
      rw [← hst]
      exact ⟨k + 1, by omega, by omega, ⟨⟨rfl, rfl⟩, zF, zB, zN, zX⟩⟩)
  replace hc := of_decide_eq_false hc
  obtain rfl : k = 2 := by omega
  rw [uj2]
  refine x7 8 (lst (dw p x)) rfl Wk.tok ?_
  refine dq ?_
  refine K14 _ ?_
  refine yR ?_
  refine aa rfl (cr rfl rfl) ?_
  try dsimp only [St.put]
  refine ae rfl (bz rfl rfl zG trivial (by first | rfl | assumption)) ?_
  refine yM rfl rfl ?_
  try dsimp only [St.put]
  refine af rfl (el rfl rfl rfl (by decide) (by decide) zR (by decide) ?_)
  try dsimp only [St.put]
  refine af rfl (l4 ([dw p x]) rfl rfl zG zE rfl rfl zA ?_ zA)
  refine aa rfl (cr rfl rfl) ?_
  try dsimp only [St.put]
  refine af rfl (g7 rfl rfl rfl zG (by constructor) rfl zO ?_)
  refine yN ?_
  dsimp only [St.put]
  refine K9 _ ?_
  refine yR ?_
  refine aa rfl (cm rfl rfl rfl (by omega)) ?_
  refine yM rfl rfl ?_
  refine yN ?_
  dsimp only [St.put]
  have e2 := ul2 (dw p) hx
  simp only [← e2]
  exact ⟨j + 1, by omega, by omega, ⟨⟨rfl, rfl⟩, zF, zB, zN, zX⟩⟩
 replace hc := of_decide_eq_false hc
 obtain rfl : j = p.pages.length := by omega
 rw [List.take_length]
 refine ubb (nx + 1) (c4 p + 2 * p.pages.length) (cells (gq p (dm p) (d9 p))) zG zW ?_
 refine dq ?_
 refine K5 _ ?_
 refine yS fun _ K23 => ?_
 refine g8 [(0, none), (1, none), (2, none), (3, none), (4, none), (5, none), (6, none)] (fun i => [5].contains i) (fun i => [3, 5].contains i) (fun i => [1, 4, 6].contains i) [nx + 1] (by kernel_rfl) (by kernel_rfl) ?_
 try dsimp only [St.put]
 refine ai rfl rfl rfl rfl (ca rfl rfl zG (by simp) (by rfl)) ?_
 refine ah rfl rfl rfl rfl (cr rfl rfl) ?_
 try dsimp only [St.put]
 refine ai rfl rfl rfl rfl (bz rfl rfl zG (by simp) (by first | rfl | assumption)) ?_
 refine j4 ?_
 try dsimp only [St.put]
 refine lg rfl rfl rfl (bl rfl rfl rfl (yg (dd (c4 p) (dm p)) (fun z => decide (z < 0)) _ _ fun z _ => ujo z) ⟨zD, ?_⟩)
 refine eo rfl rfl rfl rfl (ei rfl rfl) ?_
 try dsimp only [St.put]
 refine gg rfl rfl rfl rfl (da rfl rfl rfl zG rfl rfl (by rfl) ?_)
 refine eo rfl rfl rfl rfl (bf rfl (by constructor)) ?_
 refine j3 ?_
 dsimp only [St.put]
 refine K23 _ ?_
 refine bc ?_
 refine ii rfl (i9 rfl zG (by rfl) zC rfl) (ep (by constructor)) zN zS ?_ ?_
 ·exact zW
 rw [umh]; exact zW
theorem ujp (m : Nat) (e : Int) (p : ak) : C.low m (bif decide (e = 0) then val (gq p (dm p) (d9 p)) else .agg [.list [] .nil, .list [] .nil, .list [] .nil]) := by
 cases decide (e = 0)
 ·exact .agg (ct fp (ct fp (ct fp dj)))
 exact ey _ _
theorem uc5 (n : Nat) (p : ak) (c : C) (e : Int) (h : e = 0 → gh p ∧ c = .elem (kr p)) : fu n fm Tryz.prog 41 [c, .v (.int .i64 e)] (.tup [bif decide (gt p e = 0) then val (gq p (dm p) (d9 p)) else .agg [.list [] .nil, .list [] .nil, .list [] .nil], .v (.int .i64 (gt p e))]) := fun G nx hF hnx => by
 refine ix (G) (nx) Tryz.func41 rfl (.tup (ct (ujp _ _ _) (ct .v dj))) zN (fun hlt => zH) ?_
 simp only [Tryz.ntmps41, List.length_cons, List.length_nil, Nat.reduceAdd, Nat.reduceSub]
 refine cp fun hlt => ?_
 dsimp only at hlt
 refine yS fun _ K1 => ?_
 refine yR ?_
 try dsimp only [St.put]
 refine af rfl (dt rfl ?_)
 refine yA rfl rfl ?_
 refine yN ?_
 dsimp only [St.put]
 refine K1 _ ?_
 refine yS fun _ K2 => ?_
 refine yS fun _ K3 => ?_
 refine yR ?_
 refine yM rfl rfl ?_
 refine aa rfl (fq rfl rfl rfl) ?_
 refine yN ?_
 dsimp only [St.put]
 refine K3 _ ?_
 refine bd rfl (fun hc => ?_) (fun hc => ?_)
 ·have h0 : e ≠ 0 := j8 hc
  have hE : gt p e = e := uef h0
  refine yS fun _ K4 => ?_
  refine yR ?_
  refine aa rfl (ie rfl rfl) ?_
  refine yM rfl rfl ?_
  try dsimp only [St.put]
  refine af rfl (da rfl rfl rfl zG rfl rfl (by rfl) ?_)
  refine yA rfl rfl ?_
  refine yN ?_
  dsimp only [St.put]
  refine K4 _ ?_
  refine bc ?_
  refine ii rfl (i9 rfl zG (by rfl) zC rfl) (ep (by constructor)) zN zS ?_ ?_
  ·rw [hE, decide_eq_false h0]; exact zW
  rw [hE]; exact zW
 have h0 : e = 0 := iy hc
 obtain ⟨hok, rfl⟩ := h h0
 subst h0
 refine bi ?_
 refine K2 _ ?_
 refine yS fun _ K5 => ?_
 refine yR ?_
 refine yM rfl rfl ?_
 try dsimp only [St.put]
 refine af rfl (eu rfl rfl rfl (ukv n p hok) zG (by dsimp only [St.put]; omega) ?_)
 refine yM rfl rfl ?_
 refine yX rfl rfl rfl rfl ?_
 refine yX rfl rfl rfl rfl ?_
 try dsimp only [St.put]
 refine af rfl (dt rfl ?_)
 try dsimp only [St.put]
 refine af rfl (da rfl rfl rfl zG rfl rfl (by rfl) ?_)
 refine yA rfl rfl ?_
 refine yN ?_
 dsimp only [St.put]
 refine K5 _ ?_
 refine yS fun _ K6 => ?_
 refine yS fun _ K7 => ?_
 refine yR ?_
 refine yM rfl rfl ?_
 refine aa rfl (ei rfl rfl) ?_
 refine yN ?_
 dsimp only [St.put]
 refine K7 _ ?_
 refine bd rfl (fun hc => ?_) (fun hc => ?_)
 ·have hTB : jt p = false := by simpa using hc
  have hE : gt p 0 = 8 := by rw [ul, hTB]; rfl
  refine yS fun _ K8 => ?_
  refine yR ?_
  refine aa rfl (ie rfl rfl) ?_
  try dsimp only [St.put]
  refine af rfl (da rfl rfl rfl zG rfl rfl (by rfl) ?_)
  refine yA rfl rfl ?_
  refine yN ?_
  dsimp only [St.put]
  refine K8 _ ?_
  refine bc ?_
  refine ii rfl (i9 rfl zG (by rfl) zC rfl) (ep (by constructor)) zN zS ?_ ?_
  ·rw [hE]; exact zW
  rw [hE]; exact zW
 have hTB : jt p = true := by simpa using hc
 have hE : gt p 0 = 0 := by rw [ul, hTB]; rfl
 refine bi ?_
 refine K6 _ ?_
 refine yS fun _ K9 => ?_
 refine yR ?_
 try dsimp only [St.put]
 refine ae rfl (ca rfl rfl zG trivial (by rfl)) ?_
 try dsimp only [St.put]
 refine af rfl (da rfl rfl rfl zG rfl rfl (by rfl) ?_)
 refine yA rfl rfl ?_
 refine yN ?_
 dsimp only [St.put]
 refine K9 _ ?_
 refine bc ?_
 refine ii rfl (i9 rfl zG (by rfl) zC rfl) (ep (by constructor)) zN zS ?_ ?_
 ·rw [hE]; exact zW
 rw [hE]; exact zW
end Go.Proofs.YtgffhbbcpgdjjaaGreatDoor
namespace Go.AB
open Go Go.RowKit
open Go.AB.Enc (cells)
open Go.PB (bg aj PlaceD bn bq bp ck az ak dc ce dr dv)
/-- what may remain ahead of a page, by the worst truth -/
noncomputable def rmR (p : ak) (i : Nat) : Nat → Int := ((cw p).room (dm p) (d9 p) i).1
noncomputable def rmC (p : ak) (i : Nat) : Nat → Int := ((cw p).room (dm p) (d9 p) i).2
theorem ujm (p : ak) (i : Nat) : rmR p (i + 1) = (cw p).lessR (rmR p i) i (jq p i) := rfl
theorem ujn (p : ak) (i : Nat) : rmC p (i + 1) = fa (rmC p i) i := rfl
theorem ubp {p : ak} (h : gh p) (ht : jt p = true) {i : Nat} (hi : i < p.pages.length) : (cw p).Pick (rmR p i) (rmC p i) i ((cw p).pick (rmR p i) (rmC p i) i) :=
 Net.worst_pick (uln h) (uh5 ht) (fun j _ => uf6 h j) hi
theorem ubq (p : ak) (i : Nat) : jq p i = (cw p).pick (rmR p i) (rmC p i) i := rfl
theorem uco {p : ak} (h : gh p) (ht : jt p = true) : ∀ {i : Nat}, i ≤ p.pages.length → Bd p (rmR p i) (rmC p i)
 | 0, _ => vk h
 | i + 1, hi => by
  have hp := ubp h ht (i := i) (by omega)
  rw [ujm, ujn, ubq]
  exact uba (uco h ht (by omega)) hp.nn hp.le
theorem uo6 {p : ak} {R C : Nat → Int} (hB : Bd p R C) (j : Nat) : (cw p).alone R C j ≤ 1000000 := Int.le_trans (Net.le_alone.1 (Int.le_refl _)).1 (hB.c j).2
end Go.AB
namespace Go.Proofs.YtgffhbbcpgdjjaaGreatDoor
set_option maxRecDepth 10000
open Go.RowKit Go.AB
open Go.AB.Enc (cells)
open Go.PB (bg aj PlaceD bn bq bp ck az ak dc ce dr dv)
end Go.Proofs.YtgffhbbcpgdjjaaGreatDoor
namespace Go.AB
open Go Go.RowKit
open Go.AB.Enc (cells)
open Go.PB (bg aj PlaceD bn bq bp ck az ak dc ce dr dv)
theorem um {p : ak} {e : Int} (h : gt p e = 0) : e = 0 ∧ jt p = true := by
 by_cases h0 : e = 0
 ·subst h0
  rw [ul] at h
  cases ht : jt p
  ·rw [ht] at h; cases h
  exact ⟨rfl, rfl⟩
 rw [uef h0] at h; exact absurd h h0
end Go.AB
namespace Go.Proofs.YtgffhbbcpgdjjaaGreatDoor
set_option maxRecDepth 10000
open Go Go.RowKit Go.AB
open Go.AB.Enc (cells)
open Go.PB (bg aj PlaceD bn bq bp ck az ak dc ce dr dv)
theorem ugs {p : ak} {n : Int} (h : e8 p n = 0) : gh p ∧ pgC p n = .elem (kr p) := ⟨(mx (qx h).1).1, tw h⟩
theorem p7 {p : ak} (h : dg p = 0) : gh p ∧ jx p = .elem (kr p) := ⟨(mx h).1, wz h⟩
theorem t6 (n : Nat) (p : ak) (c : C) (e : Int) (h : e = 0 → gh p ∧ c = .elem (kr p)) (hE : gt p e = 0) : fu n fm Tryz.prog 41 [c, .v (.int .i64 e)] (.tup [val (gq p (dm p) (d9 p)), .v (.int .i64 0)]) := by
 have := uc5 n p c e h
 rwa [hE, decide_eq_true rfl, cond_true] at this
theorem t7 (n : Nat) (p : ak) (c : C) (e : Int) (h : e = 0 → gh p ∧ c = .elem (kr p)) (hE : gt p e ≠ 0) : fu n fm Tryz.prog 41 [c, .v (.int .i64 e)] (.tup [.agg [.list [] .nil, .list [] .nil, .list [] .nil], .v (.int .i64 (gt p e))]) := by
 have := uc5 n p c e h
 rwa [decide_eq_false hE, cond_false] at this
theorem ukw (n : Nat) (p : ak) (m : Int) : fu n fm Tryz.prog 14 [val p, .v (.int .i64 m)] (.tup [val (qi p m), .v (.int .i64 (gt p (e8 p m)))]) := fun G nx hF hnx => by
 refine ix (G) (nx) Tryz.func14 rfl (.tup (ct (ey _ _) (ct .v dj))) zN (fun hlt => zH) ?_
 simp only [Tryz.ntmps14, List.length_cons, List.length_nil, Nat.reduceAdd, Nat.reduceSub]
 refine cp fun hlt => ?_
 dsimp only at hlt
 refine yS fun _ K1 => ?_
 refine yR ?_
 try dsimp only [St.put]
 refine yB rfl rfl rfl ?_
 try dsimp only [St.put]
 refine af rfl (dt rfl ?_)
 refine yA rfl rfl ?_
 refine yN ?_
 dsimp only [St.put]
 refine K1 _ ?_
 refine yS fun _ K2 => ?_
 by_cases hL : gt p (e8 p m) = 0
 ·refine yR ?_
  refine yE rfl rfl rfl ?_
  refine yM rfl rfl ?_
  try dsimp only [St.put]
  refine af rfl (eu rfl rfl rfl (rp n p m) zG (by dsimp only [St.put]; omega) ?_)
  refine yX rfl rfl rfl rfl ?_
  refine yX rfl rfl rfl rfl ?_
  try dsimp only [St.put]
  refine af rfl (eu rfl rfl rfl (t6 n p (pgC p m) (e8 p m) ugs hL) zG (by dsimp only [St.put]; omega) ?_)
  refine yM rfl rfl ?_
  refine yX rfl rfl rfl rfl ?_
  refine yX rfl rfl rfl rfl ?_
  try dsimp only [St.put]
  refine af rfl (dt rfl ?_)
  try dsimp only [St.put]
  refine af rfl (da rfl rfl rfl zG rfl rfl (by rfl) ?_)
  refine yA rfl rfl ?_
  refine yN ?_
  dsimp only [St.put]
  refine K2 _ ?_
  refine yS fun _ K3 => ?_
  refine yS fun _ K4 => ?_
  refine yR ?_
  refine yM rfl rfl ?_
  refine aa rfl (fq rfl rfl rfl) ?_
  refine yN ?_
  dsimp only [St.put]
  refine K4 _ ?_
  refine bd rfl (fun hc => ?_) (fun hc => ?_)
  ·exact absurd hc (by decide)
  obtain ⟨h0, hTB⟩ := um hL
  obtain ⟨hc0, j, x, rfl, hx, hpo⟩ := qx h0
  obtain ⟨hok, _⟩ := mx hc0
  have hV : qi p (j : Int) = ⟨0, (cw p).alone (dm p) (d9 p) j⟩ := by unfold qi; rw [hL, qb, Int.toNat_natCast]
  refine bi ?_
  refine K3 _ ?_
  refine yS fun _ K5 => ?_
  refine yR ?_
  try dsimp only [St.put]
  refine ae rfl (ca rfl rfl zG trivial (by rfl)) ?_
  refine yM rfl rfl ?_
  try dsimp only [St.put]
  refine af rfl (bl rfl rfl rfl (uc7 p (dm p) (d9 p) j x hok hx) ?_)
  refine aa rfl (ie rfl rfl) ?_
  try dsimp only [St.put]
  refine af rfl (da rfl rfl rfl zG rfl rfl (by rfl) ?_)
  refine yA rfl rfl ?_
  refine yN ?_
  dsimp only [St.put]
  refine K5 _ ?_
  refine bc ?_
  refine ii rfl (i9 rfl zG (by rfl) zC rfl) (ep (by constructor)) zN zS ?_ ?_
  ·rw [hV]; exact zW
  rw [hL]; exact zW
 refine yR ?_
 refine yE rfl rfl rfl ?_
 refine yM rfl rfl ?_
 try dsimp only [St.put]
 refine af rfl (eu rfl rfl rfl (rp n p m) zG (by dsimp only [St.put]; omega) ?_)
 refine yX rfl rfl rfl rfl ?_
 refine yX rfl rfl rfl rfl ?_
 try dsimp only [St.put]
 refine af rfl (eu rfl rfl rfl (t7 n p (pgC p m) (e8 p m) ugs hL) zG (by dsimp only [St.put]; omega) ?_)
 refine yM rfl rfl ?_
 refine yX rfl rfl rfl rfl ?_
 refine yX rfl rfl rfl rfl ?_
 try dsimp only [St.put]
 refine af rfl (dt rfl ?_)
 try dsimp only [St.put]
 refine af rfl (da rfl rfl rfl zG rfl rfl (by rfl) ?_)
 refine yA rfl rfl ?_
 refine yN ?_
 dsimp only [St.put]
 refine K2 _ ?_
 refine yS fun _ K6 => ?_
 refine yS fun _ K7 => ?_
 refine yR ?_
 refine yM rfl rfl ?_
 refine aa rfl (fq rfl rfl rfl) ?_
 refine yN ?_
 dsimp only [St.put]
 refine K7 _ ?_
 refine bd rfl (fun hc => ?_) (fun hc => ?_)
 ·have hV : qi p m = ⟨0, 0⟩ := by unfold qi; rw [l6 hL]
  refine yS fun _ K8 => ?_
  refine yR ?_
  refine aa rfl (ie rfl rfl) ?_
  refine yM rfl rfl ?_
  try dsimp only [St.put]
  refine af rfl (da rfl rfl rfl zG rfl rfl (by rfl) ?_)
  refine yA rfl rfl ?_
  refine yN ?_
  dsimp only [St.put]
  refine K8 _ ?_
  refine bc ?_
  refine ii rfl (i9 rfl zG (by rfl) zC rfl) (ep (by constructor)) zN zS ?_ ?_
  ·rw [hV]; exact zW
  exact zW
 exact absurd (iy hc) hL
theorem uks (n : Nat) (p : ak) : fu n fm Tryz.prog 15 [val p] (.tup [val (rg p), .v (.int .i64 (gt p (dg p)))]) := fun G nx hF hnx => by
 refine ix (G) (nx) Tryz.func15 rfl (.tup (ct (ey _ _) (ct .v dj))) zN (fun hlt => zH) ?_
 simp only [Tryz.ntmps15, List.length_cons, List.length_nil, Nat.reduceAdd, Nat.reduceSub]
 refine cp fun hlt => ?_
 dsimp only at hlt
 refine yS fun _ K1 => ?_
 refine yR ?_
 try dsimp only [St.put]
 refine yB rfl rfl rfl ?_
 try dsimp only [St.put]
 refine af rfl (dt rfl ?_)
 refine yA rfl rfl ?_
 refine yN ?_
 dsimp only [St.put]
 refine K1 _ ?_
 refine yS fun _ K2 => ?_
 by_cases hL : gt p (dg p) = 0
 ·refine yR ?_
  refine yE rfl rfl rfl ?_
  try dsimp only [St.put]
  refine af rfl (eu rfl rfl rfl (oq n p) zG (by dsimp only [St.put]; omega) ?_)
  refine yX rfl rfl rfl rfl ?_
  refine yX rfl rfl rfl rfl ?_
  try dsimp only [St.put]
  refine af rfl (eu rfl rfl rfl (t6 n p (jx p) (dg p) p7 hL) zG (by dsimp only [St.put]; omega) ?_)
  refine yM rfl rfl ?_
  refine yX rfl rfl rfl rfl ?_
  refine yX rfl rfl rfl rfl ?_
  try dsimp only [St.put]
  refine af rfl (dt rfl ?_)
  try dsimp only [St.put]
  refine af rfl (da rfl rfl rfl zG rfl rfl (by rfl) ?_)
  refine yA rfl rfl ?_
  refine yN ?_
  dsimp only [St.put]
  refine K2 _ ?_
  refine yS fun _ K3 => ?_
  refine yS fun _ K4 => ?_
  refine yR ?_
  refine yM rfl rfl ?_
  refine aa rfl (fq rfl rfl rfl) ?_
  refine yN ?_
  dsimp only [St.put]
  refine K4 _ ?_
  refine bd rfl (fun hc => ?_) (fun hc => ?_)
  ·exact absurd hc (by decide)
  obtain ⟨h0, hTB⟩ := um hL
  obtain ⟨hok, _⟩ := mx h0
  have hV : rg p = ⟨0, (cw p).most (dm p) (d9 p)⟩ := by unfold rg; rw [hL, qb]; rfl
  refine bi ?_
  refine K3 _ ?_
  refine yS fun _ K5 => ?_
  refine yR ?_
  try dsimp only [St.put]
  refine ae rfl (ca rfl rfl zG trivial (by rfl)) ?_
  try dsimp only [St.put]
  refine af rfl (bl rfl rfl rfl (t8 p (dm p) (d9 p) hok (vk hok)) ?_)
  refine aa rfl (ie rfl rfl) ?_
  try dsimp only [St.put]
  refine af rfl (da rfl rfl rfl zG rfl rfl (by rfl) ?_)
  refine yA rfl rfl ?_
  refine yN ?_
  dsimp only [St.put]
  refine K5 _ ?_
  refine bc ?_
  refine ii rfl (i9 rfl zG (by rfl) zC rfl) (ep (by constructor)) zN zS ?_ ?_
  ·rw [hV]; exact zW
  rw [hL]; exact zW
 refine yR ?_
 refine yE rfl rfl rfl ?_
 try dsimp only [St.put]
 refine af rfl (eu rfl rfl rfl (oq n p) zG (by dsimp only [St.put]; omega) ?_)
 refine yX rfl rfl rfl rfl ?_
 refine yX rfl rfl rfl rfl ?_
 try dsimp only [St.put]
 refine af rfl (eu rfl rfl rfl (t7 n p (jx p) (dg p) p7 hL) zG (by dsimp only [St.put]; omega) ?_)
 refine yM rfl rfl ?_
 refine yX rfl rfl rfl rfl ?_
 refine yX rfl rfl rfl rfl ?_
 try dsimp only [St.put]
 refine af rfl (dt rfl ?_)
 try dsimp only [St.put]
 refine af rfl (da rfl rfl rfl zG rfl rfl (by rfl) ?_)
 refine yA rfl rfl ?_
 refine yN ?_
 dsimp only [St.put]
 refine K2 _ ?_
 refine yS fun _ K6 => ?_
 refine yS fun _ K7 => ?_
 refine yR ?_
 refine yM rfl rfl ?_
 refine aa rfl (fq rfl rfl rfl) ?_
 refine yN ?_
 dsimp only [St.put]
 refine K7 _ ?_
 refine bd rfl (fun hc => ?_) (fun hc => ?_)
 ·have hV : rg p = ⟨0, 0⟩ := by unfold rg; rw [l6 hL]
  refine yS fun _ K8 => ?_
  refine yR ?_
  refine aa rfl (ie rfl rfl) ?_
  refine yM rfl rfl ?_
  try dsimp only [St.put]
  refine af rfl (da rfl rfl rfl zG rfl rfl (by rfl) ?_)
  refine yA rfl rfl ?_
  refine yN ?_
  dsimp only [St.put]
  refine K8 _ ?_
  refine bc ?_
  refine ii rfl (i9 rfl zG (by rfl) zC rfl) (ep (by constructor)) zN zS ?_ ?_
  ·rw [hV]; exact zW
  exact zW
 exact absurd (iy hc) hL
set_option maxHeartbeats 1000000 in
theorem ukn (n0 : Nat) (p : ak) : fu n0 fm Tryz.prog 25 [val p] (.tup [lst (qh p), .v (.int .i64 (gt p (dg p)))]) := fun G nx hF hnx => by
 refine ix (G) (nx) Tryz.func25 rfl (.tup (ct (co _ _) (ct .v dj))) zN (fun hlt => zH) ?_
 simp only [Tryz.ntmps25, List.length_cons, List.length_nil, Nat.reduceAdd, Nat.reduceSub]
 refine cp fun hlt => ?_
 dsimp only at hlt
 refine yS fun _ K1 => ?_
 refine yR ?_
 try dsimp only [St.put]
 refine yB rfl rfl rfl ?_
 refine yA rfl rfl ?_
 refine yA rfl rfl ?_
 refine yN ?_
 dsimp only [St.put]
 refine K1 _ ?_
 refine yS fun _ K2 => ?_
 by_cases hL : gt p (dg p) = 0
 ·refine yR ?_
  refine yE rfl rfl rfl ?_
  try dsimp only [St.put]
  refine af rfl (eu rfl rfl rfl (oq n0 p) zG (by dsimp only [St.put]; omega) ?_)
  refine yX rfl rfl rfl rfl ?_
  refine yX rfl rfl rfl rfl ?_
  try dsimp only [St.put]
  refine af rfl (eu rfl rfl rfl (t6 n0 p (jx p) (dg p) p7 hL) zG (by dsimp only [St.put]; omega) ?_)
  refine yM rfl rfl ?_
  refine yX rfl rfl rfl rfl ?_
  refine yX rfl rfl rfl rfl ?_
  try dsimp only [St.put]
  refine af rfl (dt rfl ?_)
  try dsimp only [St.put]
  refine af rfl (da rfl rfl rfl zG rfl rfl (by rfl) ?_)
  refine yA rfl rfl ?_
  refine yN ?_
  dsimp only [St.put]
  refine K2 _ ?_
  refine yS fun _ K3 => ?_
  refine yS fun _ K4 => ?_
  refine yR ?_
  refine yM rfl rfl ?_
  refine aa rfl (fq rfl rfl rfl) ?_
  refine yN ?_
  dsimp only [St.put]
  refine K4 _ ?_
  refine bd rfl (fun hc => ?_) (fun hc => ?_)
  ·exact absurd hc (by decide)
  obtain ⟨h0, hTB⟩ := um hL
  obtain ⟨hok, _⟩ := mx h0
  have hnp := hok.np
  have hV : qh p = dd p.pages.length (jq p) := by unfold qh; rw [hL, qb]
  refine bi ?_
  refine K3 _ ?_
  refine yS fun _ K5 => ?_
  refine yR ?_
  refine yA rfl rfl ?_
  refine yN ?_
  dsimp only [St.put]
  refine K5 _ ?_
  refine qw 6 3 1 rfl (by decide) ?_
  dsimp only [List.set_cons_zero, List.set_cons_succ]
  refine yS fun _ K6 => ?_
  refine yS fun _ K7 => ?_
  refine yR ?_
  refine yF rfl rfl rfl rfl ?_
  refine yL rfl rfl rfl ?_
  refine aa rfl (bj rfl rfl (List.length_map _)) ?_
  refine yM rfl rfl ?_
  refine yN ?_
  dsimp only [St.put]
  refine K7 _ ?_
  refine cb ?_
  refine dh 25 ?_
  refine zQ ?_
  refine du ((ay (ay G nx (.box (0 + 1) (cells (gq p (rmR p 0) (rmC p 0))))) (nx + 1) (.tip (dd 0 (jq p)).length 3 1))) zX ?_
  dsimp only
  refine dz (X := Nat) (fun i => i ≤ p.pages.length) (fun i => p.pages.length - i) (fun i => [(6, .list ((dd i (jq p)).map cells) (.tip (nx + 1))), (7, .any), (8, .any), (9, .any), (24, .v (.int .i64 (i : Int)))]) (fun i G' => (ay (ay G nx (.box (i + 1) (cells (gq p (rmR p i) (rmC p i))))) (nx + 1) (.tip (dd i (jq p)).length 3 1))) 0 rfl ?_ ?_ ?_ ?_ ?_ ?_
  ·exact Nat.zero_le _
  ·exact zF
  ·exact zX
  ·rintro i hI
   exact zL
  ·rintro i hI
   exact zH
  rintro i hI
  dsimp only at hI ⊢
  refine yS fun _ K8 => ?_
  refine yR ?_
  refine aa rfl (c5 rfl rfl rfl) ?_
  refine yN ?_
  dsimp only [St.put]
  refine K8 _ ?_
  refine yS fun _ K9 => ?_
  refine bd rfl (fun hc => ?_) (fun hc => ?_)
  ·replace hc := of_decide_eq_true hc
   have hi : i < p.pages.length := by omega
   obtain ⟨x, hx⟩ : ∃ x, p.pages[i]? = some x := d8 hi
   have hB := uco hok hTB (Nat.le_of_lt hi)
   have hP := ubp hok hTB hi
   have hab := uo6 hB i
   have hmb := udx hB
   have hln := ju i (jq p)
   have hPn := hP.nn
   refine bi ?_
   refine K9 _ ?_
   refine yS fun _ K10 => ?_
   refine cb ?_
   refine yS fun _ K11 => ?_
   refine yR ?_
   refine yM rfl rfl ?_
   refine yA rfl rfl ?_
   refine yN ?_
   dsimp only [St.put]
   refine K11 _ ?_
   refine yS fun _ K12 => ?_
   refine g8 [(0, none), (2, none), (3, none), (1, none), (4, none), (5, none), (6, none)] (fun i => [4].contains i) (fun i => [1, 4].contains i) (fun i => [3, 5, 6].contains i) [nx] (by kernel_rfl) (by kernel_rfl) ?_
   try dsimp only [St.put]
   refine ai rfl rfl rfl rfl (ca rfl rfl zG (by simp) (by rfl)) ?_
   try dsimp only [St.put]
   refine ai rfl rfl rfl rfl (ca rfl rfl zG (by simp) (by rfl)) ?_
   refine xM rfl rfl rfl rfl rfl ?_
   refine j4 ?_
   try dsimp only [St.put]
   refine lg rfl rfl rfl (bl rfl rfl rfl (t8 p _ _ hok hB) ⟨zD, ?_⟩)
   try dsimp only [St.put]
   refine gg rfl rfl rfl rfl (bl rfl rfl rfl (uc7 p (rmR p i) (rmC p i) i x hok hx) ?_)
   refine eo rfl rfl rfl rfl (bf rfl (by constructor)) ?_
   refine eo rfl rfl rfl rfl (bf rfl (by constructor)) ?_
   refine j3 ?_
   dsimp only [St.put]
   refine K12 _ ?_
   refine yS fun _ K13 => ?_
   refine cb ?_
   refine dh 25 ?_
   refine zQ ?_
   refine dz (X := Int) (fun n => FromTop p (rmR p i) (rmC p i) i n) (fun n => n.toNat) (fun n => [(9, .v (.int .i64 n))]) (fun n G' => G') ((cw p).alone (rmR p i) (rmC p i) i) rfl ?_ ?_ (fun _ _ h => h) ?_ ?_ ?_
   ·exact FromTop.start hP
   ·exact zF
   ·rintro n hI
    exact zL
   ·exact fun _ _ _ _ h => .inl h
   rintro n hF2
   dsimp only at hF2 ⊢
   have hF1 := hF2.1
   have hF3 := hF2.2.1
   have hBl := uba hB (by omega) hF2.2.1
   have hmb2 := udx hBl
   refine yS fun _ K14 => ?_
   refine yS fun _ K15 => ?_
   refine yR ?_
   refine yM rfl rfl ?_
   try dsimp only [St.put]
   refine ae rfl (ca rfl rfl zG trivial (by rfl)) ?_
   refine yM rfl rfl ?_
   refine yM rfl rfl ?_
   try dsimp only [St.put]
   refine af rfl (bl rfl rfl rfl (zl p (rmR p i) (rmC p i) i x n hok hx (by have := hF2.1; have := hF2.2.1; omega) hB.r) ?_)
   try dsimp only [St.put]
   refine af rfl (bl rfl rfl rfl (t8 p _ _ hok (uba hB (by have := hF2.1; omega) hF2.2.1)) ?_)
   refine aa rfl (cm rfl rfl rfl (by omega)) ?_
   refine yM rfl rfl ?_
   refine aa rfl (c5 rfl rfl rfl) ?_
   refine yN ?_
   dsimp only [St.put]
   refine K15 _ ?_
   refine bd rfl (fun hc => ?_) (fun hc => ?_)
   ·replace hc := of_decide_eq_true hc
    have hnot : ¬ (cw p).most (rmR p i) (rmC p i) ≤ n + (cw p).most ((cw p).lessR (rmR p i) i n) (fa (rmC p i) i) := by omega
    refine bi ?_
    refine K14 _ ?_
    refine cb ?_
    refine yR ?_
    refine yM rfl rfl ?_
    refine aa rfl (ir rfl rfl rfl (by omega)) ?_
    refine yA rfl rfl ?_
    refine yN ?_
    dsimp only [St.put]
    have hd := FromTop.down hP hF2 hnot
    have hd1 := hd.1
    exact ⟨n - 1, by omega, hd, ⟨⟨rfl, rfl⟩, zF, zB, zN, zX⟩⟩
   replace hc := of_decide_eq_false hc
   have hnw := FromTop.stop hP hF2 (by omega)
   rw [← ubq] at hnw
   subst hnw
   refine dq ?_
   refine K13 _ ?_
   refine yS fun _ K16 => ?_
   refine yR ?_
   try dsimp only [St.put]
   refine ae rfl (ca rfl rfl zG trivial (by rfl)) ?_
   refine yM rfl rfl ?_
   refine yM rfl rfl ?_
   try dsimp only [St.put]
   refine af rfl (bl rfl rfl rfl (zl p (rmR p i) (rmC p i) i x (jq p i) hok hx (by have := hF2.1; have := hF2.2.1; omega) hB.r) ?_)
   try dsimp only [St.put]
   refine af rfl (da rfl rfl rfl zG rfl rfl (by rfl) ?_)
   refine yN ?_
   dsimp only [St.put]
   refine K16 _ ?_
   refine yR ?_
   refine yM rfl rfl ?_
   refine yM rfl rfl ?_
   try dsimp only [St.put]
   refine af rfl (el rfl rfl rfl (by decide) (by decide) zR (by decide) ?_)
   try dsimp only [St.put]
   refine af rfl (l4 ([jq p i]) rfl rfl zG zE rfl rfl zA ?_ zA)
   refine yA rfl rfl ?_
   refine yN ?_
   dsimp only [St.put]
   refine K10 _ ?_
   refine yR ?_
   refine aa rfl (cm rfl rfl rfl (by omega)) ?_
   refine yM rfl rfl ?_
   refine yN ?_
   dsimp only [St.put]
   have e := yw i (jq p)
   rw [← e]
   exact ⟨i + 1, by omega, by omega, ⟨⟨rfl, rfl⟩, zF, zB, zN, zX⟩⟩
  replace hc := of_decide_eq_false hc
  obtain rfl : i = p.pages.length := by omega
  refine dq ?_
  refine K6 _ ?_
  refine yS fun _ K17 => ?_
  refine yR ?_
  refine yM rfl rfl ?_
  refine yA rfl rfl ?_
  refine yA rfl rfl ?_
  refine yN ?_
  dsimp only [St.put]
  refine K17 _ ?_
  refine bc ?_
  refine ii rfl (ep (by constructor)) (ep (by constructor)) zN zS ?_ ?_
  ·rw [hV]; exact zW
  rw [hL]; exact zW
 refine yR ?_
 refine yE rfl rfl rfl ?_
 try dsimp only [St.put]
 refine af rfl (eu rfl rfl rfl (oq n0 p) zG (by dsimp only [St.put]; omega) ?_)
 refine yX rfl rfl rfl rfl ?_
 refine yX rfl rfl rfl rfl ?_
 try dsimp only [St.put]
 refine af rfl (eu rfl rfl rfl (t7 n0 p (jx p) (dg p) p7 hL) zG (by dsimp only [St.put]; omega) ?_)
 refine yM rfl rfl ?_
 refine yX rfl rfl rfl rfl ?_
 refine yX rfl rfl rfl rfl ?_
 try dsimp only [St.put]
 refine af rfl (dt rfl ?_)
 try dsimp only [St.put]
 refine af rfl (da rfl rfl rfl zG rfl rfl (by rfl) ?_)
 refine yA rfl rfl ?_
 refine yN ?_
 dsimp only [St.put]
 refine K2 _ ?_
 refine yS fun _ K18 => ?_
 refine yS fun _ K19 => ?_
 refine yR ?_
 refine yM rfl rfl ?_
 refine aa rfl (fq rfl rfl rfl) ?_
 refine yN ?_
 dsimp only [St.put]
 refine K19 _ ?_
 refine bd rfl (fun hc => ?_) (fun hc => ?_)
 ·have hV : qh p = [] := by unfold qh; rw [l6 hL]
  refine yS fun _ K20 => ?_
  refine yR ?_
  refine yM rfl rfl ?_
  refine yA rfl rfl ?_
  refine yA rfl rfl ?_
  refine yN ?_
  dsimp only [St.put]
  refine K20 _ ?_
  refine bc ?_
  refine ii rfl (ep (by constructor)) (ep (by constructor)) zN zS ?_ ?_
  ·rw [hV]; exact zW
  exact zW
 exact absurd (iy hc) hL
end Go.Proofs.YtgffhbbcpgdjjaaGreatDoor
namespace Go.Proofs.YtgffhbbcpgdjjaaGreatDoor
set_option maxRecDepth 10000
open Go Go.RowKit Go.AB
open Go.AB.Enc (cells)
open Go.PB (bg aj PlaceD bn bq bp ck az ak dc ce dr dv)
set_option maxHeartbeats 1000000 in
theorem ui6 (nF : Nat) (n : Nat) (hb : n ≤ 8) : ye nF fm Tryz.prog 73 [.elem [.v (.int .i64 (n : Int))]] (2 ^ n) (fun s => [.v (.int .i64 (s : Int)), lst (fg n s)]) := by
 refine uep Tryz.func73 rfl rfl fun I hN hcl ok hG hn => ?_
 simp only [Tryz.ntmps73, List.length_cons, List.length_nil, Nat.reduceAdd, Nat.reduceSub]
 have h256 : 2 ^ n ≤ 2 ^ 8 := Nat.pow_le_pow_right (by omega) hb
 refine k8 2 ?_
 refine zQ ?_
 refine pt ?_
 dsimp only [FC.st]
 refine cp fun hlt => ?_
 dsimp only at hlt
 refine aw ?_
 try dsimp only [St.put]
 first | refine ae rfl (bh rfl rfl) ?_ | refine ae rfl (aq rfl rfl (Enc.len _)) ?_ | refine ae rfl (aq rfl rfl rfl) ?_ | refine ae rfl (bz rfl rfl zG trivial (by first | rfl | assumption)) ?_ | refine ae rfl (ca rfl rfl zG trivial (by rfl)) ?_ | refine ae rfl (cg rfl rfl zG trivial (by simp)) ?_ | refine ae rfl (ax rfl rfl zG trivial (ci (by assumption) rfl)) ?_ | refine ae rfl (ax rfl rfl zG trivial (by assumption)) ?_ | refine ae rfl (cj rfl rfl zG trivial rfl (by assumption) rfl (by decide)) ?_ | refine ae rfl (cd rfl rfl zG (by rfl)) ?_
 refine aa rfl (uds (n := n) rfl rfl rfl (by omega)) ?_
 refine aa rfl (ba rfl (by constructor)) ?_
 refine av ?_
 dsimp only [St.put]
 show ka _ _ _ _ _ _ _
 refine pu ok rfl ⟨rfl, rfl, zK, zN, zS, zK⟩ ?_
 refine se ?_
 refine k8 9 ?_
 refine zQ ?_
 refine uan (X := Nat) (fun s => s ≤ 2 ^ n) (fun s => 2 ^ n - s) (fun s => [(3, .any), (4, .any), (5, .any), (8, .v (.int .i64 (s : Int)))]) (fun s => s) 0 rfl ?_ ?_ ?_ ?_ ?_
 ·exact Nat.zero_le _
 ·exact zF
 ·rfl
 ·rintro s hI
  exact zL
 ·rintro s hI
  dsimp only at hI ⊢
  refine k8 9 ?_
  refine zQ ?_
  refine pt ?_
  dsimp only [FC.st]
  refine cp fun hlt => ?_
  dsimp only at hlt
  refine aw ?_
  refine aa rfl (c5 rfl rfl rfl) ?_
  refine av ?_
  dsimp only [St.put]
  show ka _ _ _ _ _ _ _
  refine pu ok rfl ⟨rfl, rfl, zK, zN, zS, zK⟩ ?_
  refine pr fun K1 hK1 => ?_
  refine uz rfl (fun hc => ?_) (fun hc => ?_)
  ·replace hc := of_decide_eq_true hc
   have hs : s < 2 ^ n := by omega
   refine uy ?_
   refine hK1 _ _ ?_
   refine pr fun K2 hK2 => ?_
   refine se ?_
   refine k8 9 ?_
   refine zQ ?_
   refine pt ?_
   dsimp only [FC.st]
   refine cp fun hlt => ?_
   dsimp only at hlt
   refine aw ?_
   refine aa rfl (ba rfl (by constructor)) ?_
   refine aa rfl (bf rfl (by constructor)) ?_
   refine av ?_
   dsimp only [St.put]
   show ka _ _ _ _ _ _ _
   refine xo ?_
   refine aw ?_
   refine aa rfl (bf rfl (by constructor)) ?_
   refine av ?_
   dsimp only [St.put]
   show ka _ _ _ _ _ _ _
   refine xo ?_
   refine qw 4 3 1 rfl (by decide) ?_
   dsimp only [List.set_cons_zero, List.set_cons_succ]
   refine ar fun K3 hK3 => ?_
   refine aw ?_
   try dsimp only [St.put]
   first | refine ae rfl (bh rfl rfl) ?_ | refine ae rfl (aq rfl rfl (Enc.len _)) ?_ | refine ae rfl (aq rfl rfl rfl) ?_ | refine ae rfl (bz rfl rfl zG trivial (by first | rfl | assumption)) ?_ | refine ae rfl (ca rfl rfl zG trivial (by rfl)) ?_ | refine ae rfl (cg rfl rfl zG trivial (by simp)) ?_ | refine ae rfl (ax rfl rfl zG trivial (ci (by assumption) rfl)) ?_ | refine ae rfl (ax rfl rfl zG trivial (by assumption)) ?_ | refine ae rfl (cj rfl rfl zG trivial rfl (by assumption) rfl (by decide)) ?_ | refine ae rfl (cd rfl rfl zG (by rfl)) ?_
   refine aa rfl (ba rfl (by constructor)) ?_
   refine av ?_
   dsimp only [St.put]
   refine hK3 _ ?_
   refine cb ?_
   refine dh 13 ?_
   refine zQ ?_
   refine du ((ay (I.G s) I.nx (.tip (fg 0 s).length 3 1))) zX ?_
   dsimp only
   refine dz (X := Nat) (fun k => k ≤ n) (fun k => n - k) (fun k => [(4, .list ((fg k s).map cells) (.tip I.nx)), (5, .any), (12, .v (.int .i64 (k : Int)))]) (fun k G' => (ay (I.G s) I.nx (.tip (fg k s).length 3 1))) 0 rfl ?_ ?_ ?_ ?_ ?_ ?_
   ·exact Nat.zero_le _
   ·exact zF
   ·exact zX
   ·rintro k hI
    exact zL
   ·rintro k hI
    exact zH
   ·rintro k hK
    dsimp only at hK ⊢
    refine ar fun K4 hK4 => ?_
    refine aw ?_
    refine aa rfl (c5 rfl rfl rfl) ?_
    refine av ?_
    dsimp only [St.put]
    refine hK4 _ ?_
    refine ar fun K5 hK5 => ?_
    refine bd rfl (fun hc => ?_) (fun hc => ?_)
    ·replace hc := of_decide_eq_true hc
     have hml := uh k s
     refine bi ?_
     refine hK5 _ ?_
     refine ar fun K6 hK6 => ?_
     refine cb ?_
     refine ar fun K7 hK7 => ?_
     refine aw ?_
     refine aa rfl (ba rfl (by constructor)) ?_
     refine aa rfl (bf rfl (by constructor)) ?_
     refine av ?_
     dsimp only [St.put]
     refine hK7 _ ?_
     refine ar fun K8 hK8 => ?_
     refine aw ?_
     refine aa rfl (ba rfl (by constructor)) ?_
     refine aa rfl (ba rfl (by constructor)) ?_
     refine aa rfl (zy (m := s) (n := k) rfl rfl rfl (by show k ≤ 64; omega) (by show (s : Int) ≤ 9223372036854775807; omega) (by decide)) ?_
     refine aa rfl (z6 (m := s / 2 ^ k) rfl rfl rfl (Nat.lt_of_le_of_lt (Nat.div_le_self _ _) (by show s < 2 ^ 64; omega)) (by decide)) ?_
     refine aa rfl (f3 rfl rfl rfl) ?_
     refine av ?_
     dsimp only [St.put]
     refine hK8 _ ?_
     refine bd rfl (fun hc => ?_) (fun hc => ?_)
     ·have hb1 : s.testBit k = true := bit_eq.1 (of_decide_eq_true hc)
      refine aw ?_
      refine aa rfl (ba rfl (by constructor)) ?_
      refine aa rfl (ba rfl (by constructor)) ?_
      try dsimp only [St.put]
      refine af rfl (el rfl rfl rfl (by decide) (by decide) zR (by decide) ?_)
      try dsimp only [St.put]
      refine af rfl (l4 ([(k : Int)]) rfl rfl zG zE rfl rfl zA ?_ zA)
      refine aa rfl (bf rfl (by constructor)) ?_
      refine av ?_
      dsimp only [St.put]
      refine hK6 _ ?_
      refine aw ?_
      first | refine aa rfl (cm rfl rfl rfl (by omega)) ?_ | refine aa rfl (il rfl rfl rfl) ?_
      refine aa rfl (ba rfl (by constructor)) ?_
      refine av ?_
      dsimp only [St.put]
      have e := ud3 k s
      first
      | (have q : s.testBit k = true := hb1
         rw [q, cond_true] at e
         rw [← e]
         exact ⟨k + 1, by omega, by omega, ⟨⟨rfl, rfl⟩, zF, zB, zN, zX⟩⟩)
      | (have q : s.testBit k = false := hb0
         rw [q, cond_false, List.append_nil] at e
         rw [← e]
         exact ⟨k + 1, by omega, by omega, ⟨⟨rfl, rfl⟩, zF, zB, zN, zX⟩⟩)
     ·have hb0 : s.testBit k = false := by
       have := of_decide_eq_false hc
       rw [bit_eq, Bool.not_eq_true] at this
       exact this
      refine bi ?_
      refine hK6 _ ?_
      refine aw ?_
      first | refine aa rfl (cm rfl rfl rfl (by omega)) ?_ | refine aa rfl (il rfl rfl rfl) ?_
      refine aa rfl (ba rfl (by constructor)) ?_
      refine av ?_
      dsimp only [St.put]
      have e := ud3 k s
      first
      | (have q : s.testBit k = true := hb1
         rw [q, cond_true] at e
         rw [← e]
         exact ⟨k + 1, by omega, by omega, ⟨⟨rfl, rfl⟩, zF, zB, zN, zX⟩⟩)
      | (have q : s.testBit k = false := hb0
         rw [q, cond_false, List.append_nil] at e
         rw [← e]
         exact ⟨k + 1, by omega, by omega, ⟨⟨rfl, rfl⟩, zF, zB, zN, zX⟩⟩)
    ·replace hc := of_decide_eq_false hc
     obtain rfl : k = n := by omega
     refine x7 4 (lst (fg k s)) rfl Wk.tok ?_
     refine dq ?_
     show ka _ _ _ _ _ _ _
     refine pu ok rfl ⟨rfl, rfl, zK, zN, zS, zK⟩ ?_
     refine pr fun K9 hK9 => ?_
     refine uey ?_
     refine qs rfl (ba rfl (by constructor)) ?_
     refine qs rfl (ba rfl (by constructor)) ?_
     refine qs rfl (ba rfl (by constructor)) ?_
     try dsimp only [St.put]
     refine ue1 ok (by rw [hN]; exact hs) rfl rfl rfl rfl (by rw [hcl]; rfl) ?_
     refine qs rfl (ei rfl rfl) ?_
     refine ue2 ?_
     dsimp only [St.put]
     refine hK9 _ _ ?_
     refine uz rfl (fun h => by cases h) (fun _ => ?_)
     refine uy ?_
     refine hK2 _ _ ?_
     refine k8 9 ?_
     refine zQ ?_
     refine uam ok rfl ?_
     dsimp only [FC.st]
     refine cp fun hlt => ?_
     dsimp only at hlt
     refine aw ?_
     first | refine aa rfl (cm rfl rfl rfl (by omega)) ?_ | refine aa rfl (il rfl rfl rfl) ?_
     refine aa rfl (ba rfl (by constructor)) ?_
     refine av ?_
     dsimp only [St.put]
     refine ⟨⟨rfl, rfl, zK, zN, zS, zK⟩, ?_⟩
     exact ⟨s + 1, by omega, by omega, rfl, ⟨⟨rfl, rfl⟩, zF, zB, zN, zX⟩⟩
  ·replace hc := of_decide_eq_false hc
   obtain rfl : s = 2 ^ n := by omega
   refine uao ?_
   exact ⟨.inl rfl, rfl⟩
end Go.Proofs.YtgffhbbcpgdjjaaGreatDoor
namespace Go.AB
open Go Go.RowKit
open Go.AB.Enc (cells)
open Go.PB (bg aj PlaceD bn bq bp ck az ak dc ce dr dv)
theorem uoy {so : Nat → Bool} {n k : Nat} : ((fk so n k).getD []).length ≤ n := by
 rcases x6 so n k with ⟨h, _⟩ | ⟨b, h, k⟩
 ·rw [h]; exact Nat.zero_le _
 rw [h]
 obtain ⟨s, _, _, rfl⟩ := k.get
 exact uh n s
theorem uow {so : Nat → Bool} {n k : Nat} (h : so k = false) : fk so n (k + 1) = fk so n k := by
 cases hb : fk so n k with
 | none => rw [ugf hb, h]; rfl
 | some b => rw [ua8 hb, h]; rfl
theorem uoz {so : Nat → Bool} {n k : Nat} (hb : fk so n k = none) (h : so k = true) : fk so n (k + 1) = some (fg n k) := by rw [ugf hb, h]; rfl
theorem uox {so : Nat → Bool} {n k : Nat} {b : List Int} (hb : fk so n k = some b) (h : so k = true) : fk so n (k + 1) = bif i6 (fg n k) b then some (fg n k) else some b := by rw [ua8 hb, h]; rfl
theorem ubx {α : Type} {l : List α} {k : Nat} {x : α} (h : l[k]? = some x) : l.take (k + 1) = l.take k ++ [x] := by rw [List.take_add_one, h]; rfl
theorem uhv (p : ak) (l : List Int) (z : Int) : n8 p (l ++ [z]) = n8 p l ++ bif decide (z < (p.firsts.length : Int)) then [z] else [] := by
 unfold n8
 rw [List.filter_append]
 cases h : decide (z < (p.firsts.length : Int)) <;> simp [h]
theorem uhs (p : ak) (l : List Int) (z : Int) : na p (l ++ [z]) = na p l ++ bif decide (z < (p.firsts.length : Int)) then [] else [z - (p.firsts.length : Int)] := by
 unfold na
 rw [List.filter_append, List.map_append]
 cases h : decide (z < (p.firsts.length : Int)) <;> simp [h]
theorem uhw (p : ak) (l : List Int) : (n8 p l).length ≤ l.length := List.length_filter_le _ _
theorem uht (p : ak) (l : List Int) : (na p l).length ≤ l.length := by
 unfold na
 rw [List.length_map]
 exact List.length_filter_le _ _
theorem uhu {p : ak} {z : Int} (h : z ∈ iq p) : 0 ≤ z ∧ z < (c4 p : Int) := by
 unfold iq n4 at h
 rcases x6 (rf p) (c4 p) (2 ^ c4 p) with ⟨q, _⟩ | ⟨b, q, k⟩
 ·rw [q] at h; cases h
 rw [q] at h
 obtain ⟨s, _, _, rfl⟩ := k.get
 obtain ⟨i, rfl, hi, _⟩ := membersL_mem.1 h
 omega
end Go.AB
namespace Go.Proofs.YtgffhbbcpgdjjaaGreatDoor
set_option maxRecDepth 10000
open Go.RowKit Go.AB
open Go.AB.Enc (cells)
open Go.PB (bg aj PlaceD bn bq bp ck az ak dc ce dr dv)
end Go.Proofs.YtgffhbbcpgdjjaaGreatDoor
namespace Go.AB
open Go Go.RowKit
open Go.AB.Enc (cells)
open Go.PB (bg aj PlaceD bn bq bp ck az ak dc ce dr dv)
theorem uov {so : Nat → Bool} {n k : Nat} {b : List Int} (hb : fk so n k = some b) (h : i6 (fg n k) b = false) : fk so n (k + 1) = some b := by rw [ua8 hb, h, Bool.and_false]; rfl
theorem ugk {p : ak} {R C : Nat → Int} (h : Bd p R C) (l : List Int) : Bd p R (li C l) := ⟨h.r, fun j => by
 have := h.c j
 unfold li
 cases decide ((j : Int) ∈ l)
 ·exact this
 ·exact ⟨Int.le_refl _, by show (0 : Int) ≤ 1000000; omega⟩, h.nr, h.np⟩
theorem uoh {p : ak} {m : Int} (h : dg p ≠ 0) : jf p m = dg p := by unfold jf; rw [decide_eq_false h]; rfl
theorem uog {p : ak} {m : Int} (h : dg p = 0) (hm : m < 0) : jf p m = 2 := by unfold jf; rw [decide_eq_true h, decide_eq_true hm]; rfl
theorem uoi {p : ak} {m : Int} (h : dg p = 0) (hm : ¬ m < 0) (ht : jt p = false) : jf p m = 8 := by unfold jf; rw [decide_eq_true h, decide_eq_false hm, ht]; rfl
theorem uof {p : ak} {m : Int} (h : dg p = 0) (hm : ¬ m < 0) (ht : jt p = true) : jf p m = 0 := by unfold jf; rw [decide_eq_true h, decide_eq_false hm, ht]; rfl
end Go.AB
namespace Go.Proofs.YtgffhbbcpgdjjaaGreatDoor
set_option maxRecDepth 10000
open Go.RowKit Go.AB
open Go.AB.Enc (cells)
open Go.PB (bg aj PlaceD bn bq bp ck az ak dc ce dr dv)
end Go.Proofs.YtgffhbbcpgdjjaaGreatDoor
namespace Go.AB
open Go Go.RowKit
open Go.AB.Enc (cells)
open Go.PB (bg aj PlaceD bn bq bp ck az ak dc ce dr dv)
/-- whether a set is taken, and how often one was -/
def lk (so : Nat → Bool) (n k : Nat) : Bool := so k && match fk so n k with
 | none => true
 | some b => i6 (fg n k) b
def mg (so : Nat → Bool) (n : Nat) : Nat → Nat
 | 0 => 0
 | k + 1 => mg so n k + (lk so n k).toNat
theorem yr {so : Nat → Bool} {n k : Nat} (h : lk so n k = true) : fk so n (k + 1) = some (fg n k) ∧ mg so n (k + 1) = mg so n k + 1 := by
 refine ⟨?_, by show mg so n k + (lk so n k).toNat = _; rw [h]; rfl⟩
 unfold lk at h
 rw [Bool.and_eq_true] at h
 cases hb : fk so n k with
 | none => exact uoz hb h.1
 | some b =>
  have h2 := h.2
  rw [hb] at h2
  have h3 : i6 (fg n k) b = true := h2
  rw [uox hb h.1, h3]; rfl
theorem yu {so : Nat → Bool} {n k : Nat} (h : lk so n k = false) : fk so n (k + 1) = fk so n k ∧ mg so n (k + 1) = mg so n k := by
 refine ⟨?_, by show mg so n k + (lk so n k).toNat = _; rw [h]; rfl⟩
 unfold lk at h
 cases hs : so k
 ·exact uow hs
 rw [hs, Bool.true_and] at h
 cases hb : fk so n k with
 | none => rw [hb] at h; cases h
 | some b =>
  rw [hb] at h
  have h3 : i6 (fg n k) b = false := h
  rw [uov hb h3]
theorem uic {so : Nat → Bool} {n k : Nat} (h : so k = false) : lk so n k = false := by unfold lk; rw [h]; rfl
theorem uid {so : Nat → Bool} {n k : Nat} (h : so k = true) (hb : fk so n k = none) : lk so n k = true := by unfold lk; rw [h, hb]; rfl
theorem vx {so : Nat → Bool} {n k : Nat} {b : List Int} (h : so k = true) (hb : fk so n k = some b) : lk so n k = i6 (fg n k) b := by unfold lk; rw [h, hb]; rfl
end Go.AB
namespace Go.Proofs.YtgffhbbcpgdjjaaGreatDoor
set_option maxRecDepth 10000
open Go Go.RowKit Go.AB
open Go.AB.Enc (cells)
open Go.PB (bg aj PlaceD bn bq bp ck az ak dc ce dr dv)
theorem uca (m : Nat) : Pure Tryz.prog 54 [.v (.int .i64 (m : Int))] (.fn (.func 73) [.elem [.v (.int .i64 (m : Int))]]) := by
 refine di Tryz.func54 rfl (fun m => (.fn (ct (.elem (ct .v dj)) dj))) fun G nx => ?_
 simp only [Tryz.ntmps54, List.length_cons, List.length_nil, Nat.reduceAdd, Nat.reduceSub]
 refine cp fun hlt => ?_
 dsimp only at hlt
 refine yS fun _ K1 => ?_
 refine yR ?_
 try dsimp only [St.put]
 refine yB rfl rfl rfl ?_
 refine yA rfl rfl ?_
 refine yN ?_
 dsimp only [St.put]
 refine K1 _ ?_
 refine yS fun _ K2 => ?_
 refine yR ?_
 refine aa rfl (pk rfl rfl) ?_
 refine yA rfl rfl ?_
 refine yN ?_
 dsimp only [St.put]
 refine K2 _ ?_
 refine bc ?_
 refine bx rfl (by constructor) zN zS ?_
 rfl
set_option maxHeartbeats 1000000 in
theorem ue9 (n : Nat) (m : Nat) (so : Nat → Bool) (k0 : FuncId) (caps : List C) [Fun Tryz.prog k0] (hm : m ≤ 8) (hcl : ∀ N, ∀ c ∈ caps, C.low N c) (hso : ∀ s : Nat, s < 2 ^ m → AB.Pure Tryz.prog k0 (.v (.int .i64 (s : Int)) :: lst (fg m s) :: caps) (.v (.bool (so s)))) : fu n fm Tryz.prog 53 [.fn (.func 73) [.elem [.v (.int .i64 (m : Int))]], .fn (.func k0) caps, .fn (.func 57) []] (lst (n4 so m)) := fun G nx hF hnx => by
 refine ix (G) (nx) Tryz.func53 rfl ((co _ _)) zN (fun hlt => zH) ?_
 simp only [Tryz.ntmps53, List.length_cons, List.length_nil, Nat.reduceAdd, Nat.reduceSub]
 refine cp fun hlt => ?_
 dsimp only at hlt
 refine yS fun _ K1 => ?_
 refine yR ?_
 try dsimp only [St.put]
 refine yB rfl rfl rfl ?_
 try dsimp only [St.put]
 refine yB rfl rfl rfl ?_
 refine yA rfl rfl ?_
 refine yN ?_
 dsimp only [St.put]
 refine K1 _ ?_
 refine yS fun _ K2 => ?_
 refine yR ?_
 try dsimp only [St.put]
 refine af rfl (dt rfl ?_)
 refine yN ?_
 dsimp only [St.put]
 refine K2 _ ?_
 refine yS fun _ K3 => ?_
 refine yR ?_
 try dsimp only [St.put]
 refine af rfl (dt rfl ?_)
 try dsimp only [St.put]
 refine af rfl (da rfl rfl rfl zG rfl rfl (by rfl) ?_)
 refine yN ?_
 dsimp only [St.put]
 refine K3 _ ?_
 refine yS fun _ K4 => ?_
 refine yS fun _ K5 => ?_
 refine ubb nx 0 [lst ([] : List Int)] zG zW ?_
 refine yR ?_
 refine yM rfl rfl ?_
 refine yN ?_
 dsimp only [St.put]
 refine K5 _ ?_
 refine cb ?_
 refine dh 12 ?_
 refine zQ ?_
 refine du ((ay (ay G nx (.box (mg so m 0) [lst ((fk so m 0).getD [])])) (nx + 1) (.box (1 + mg so m 0) [.v (.bool (fk so m 0).isSome)]))) zX ?_
 dsimp only
 refine ugm [12, 13] (fun k => (ay (ay G nx (.box (mg so m k) [lst ((fk so m k).getD [])])) (nx + 1) (.box (1 + mg so m k) [.v (.bool (fk so m k).isSome)]))) (fun k => [(13, lst (fg m k)), (12, .v (.int .i64 (k : Int)))]) (ui6 n m hm) (fun k => zG) (by (try dsimp only); omega) rfl rfl (fun _ => rfl) ?_ ?_ ?_ (fun lr k hrk => ?_) ?_
 ·intro k
  rfl
 ·exact zX
 ·intro k
  exact zH
 ·have hbl := uoy (so := so) (n := m) (k := k)
  have hml := uh m k
  refine yS fun _ K6 => ?_
  refine yR ?_
  refine yA rfl rfl ?_
  refine yN ?_
  dsimp only [St.put]
  refine K6 _ ?_
  refine yR ?_
  refine yA rfl rfl ?_
  refine yN ?_
  dsimp only [St.put]
  show AW _ _ _ _ _
  refine cb ?_
  refine yS fun _ K7 => ?_
  refine yR ?_
  refine yL rfl rfl rfl ?_
  refine yM rfl rfl ?_
  refine yM rfl rfl ?_
  try dsimp only [St.put]
  refine af rfl (bl rfl rfl rfl (hso k hrk) ?_)
  refine yM rfl rfl ?_
  refine er (fun hs => ?_) (fun hs => ?_)
  ·have hw : so k = true := hs
   try dsimp only [St.put]
   refine ae rfl (bz rfl rfl zG trivial (by first | rfl | assumption)) ?_
   refine aa rfl (ei rfl rfl) ?_
   refine yM rfl rfl ?_
   refine er (fun hs => ?_) (fun hs => ?_)
   ·have hb0 : fk so m k = none := by simpa using hs
    have htk := yr (uid hw hb0)
    refine yK rfl ?_
    refine yK rfl ?_
    refine yK rfl ?_
    refine yK rfl ?_
    refine yK rfl ?_
    refine aa rfl (cn rfl rfl (by constructor)) ?_
    refine aa rfl (cn rfl rfl (by constructor)) ?_
    refine yN ?_
    dsimp only [St.put]
    refine K7 _ ?_
    refine bd rfl (fun _ => ?_) (fun h => by cases h)
    first
    | (have hbf : i6 (fg m k) b = true := (wb _ _).symm.trans hc
       have htk := yr ((vx hw hb0).trans hbf))
    | skip
    refine yR ?_
    refine yM rfl rfl ?_
    try dsimp only [St.put]
    refine af rfl (da rfl rfl rfl zG rfl rfl (by rfl) ?_)
    try dsimp only [St.put]
    refine af rfl (da rfl rfl rfl zG rfl rfl (by rfl) ?_)
    refine yN ?_
    dsimp only [St.put]
    dsimp only [qg, vp]
    first
    | (rw [htk.1, htk.2]
       exact zX)
    | (rw [hke.1, hke.2]
       try rw [hb0]
       exact zX)
   obtain ⟨b, hb0⟩ : ∃ b, fk so m k = some b := by
     cases hb : fk so m k with
     | none => rw [hb] at hs; cases hs
     | some b => exact ⟨b, rfl⟩
   rw [hb0] at hbl
   rw [hb0]
   have hbl2 : b.length ≤ m := hbl
   refine yL rfl rfl rfl ?_
   refine yM rfl rfl ?_
   try dsimp only [St.put]
   refine ae rfl (bz rfl rfl zG trivial (by first | rfl | assumption)) ?_
   try dsimp only [St.put]
   refine af rfl (bl rfl rfl rfl (uku (fg m k) b (by omega) (by omega)) ?_)
   refine aa rfl (c5 rfl rfl rfl) ?_
   refine aa rfl (cv rfl rfl (by constructor)) ?_
   refine aa rfl (cn rfl rfl (by constructor)) ?_
   refine yN ?_
   dsimp only [St.put]
   refine K7 _ ?_
   refine bd rfl (fun hc => ?_) (fun hc => ?_)
   ·first
    | (have hbf : i6 (fg m k) b = true := (wb _ _).symm.trans hc
       have htk := yr ((vx hw hb0).trans hbf))
    | skip
    refine yR ?_
    refine yM rfl rfl ?_
    try dsimp only [St.put]
    refine af rfl (da rfl rfl rfl zG rfl rfl (by rfl) ?_)
    try dsimp only [St.put]
    refine af rfl (da rfl rfl rfl zG rfl rfl (by rfl) ?_)
    refine yN ?_
    dsimp only [St.put]
    dsimp only [qg, vp]
    first
    | (rw [htk.1, htk.2]
       exact zX)
    | (rw [hke.1, hke.2]
       try rw [hb0]
       exact zX)
   first
   | (have hbf : i6 (fg m k) b = false := (wb _ _).symm.trans hc
      have hke := yu ((vx hw hb0).trans hbf))
   | skip
   refine bi ?_
   dsimp only [qg, vp]
   first
   | (rw [htk.1, htk.2]
      exact zX)
   | (rw [hke.1, hke.2]
      try rw [hb0]
      exact zX)
  have hw : so k = false := hs
  have hke := yu (uic (n := m) hw)
  refine yK rfl ?_
  refine yK rfl ?_
  refine yK rfl ?_
  refine yK rfl ?_
  refine yK rfl ?_
  refine yK rfl ?_
  refine yK rfl ?_
  refine yK rfl ?_
  refine yK rfl ?_
  refine aa rfl (cv rfl rfl (by constructor)) ?_
  refine yN ?_
  dsimp only [St.put]
  refine K7 _ ?_
  refine bd rfl (fun h => by cases h) (fun _ => ?_)
  first
  | (have hbf : i6 (fg m k) b = false := (wb _ _).symm.trans hc
     have hke := yu ((vx hw hb0).trans hbf))
  | skip
  refine bi ?_
  dsimp only [qg, vp]
  first
  | (rw [htk.1, htk.2]
     exact zX)
  | (rw [hke.1, hke.2]
     try rw [hb0]
     exact zX)
 dsimp only
 refine K4 _ ?_
 refine yS fun _ K8 => ?_
 refine yR ?_
 try dsimp only [St.put]
 refine ae rfl (bz rfl rfl zG trivial (by first | rfl | assumption)) ?_
 refine yA rfl rfl ?_
 refine yN ?_
 dsimp only [St.put]
 refine K8 _ ?_
 refine bc ?_
 refine bx rfl (by constructor) zN zS ?_
 rfl
theorem ukr (p : ak) (R C : Nat → Int) (a : Int) (s : Nat) (l : List Int) (h : gh p) (hB : Bd p R C) (hs : s ≤ 1000) : Pure Tryz.prog 55 [.v (.int .i64 (s : Int)), lst l, .elem (cells (gq p R C)), .elem [.v (.int .i64 a)]] (.v (.bool (decide ((cw p).f R C (fun i => s.testBit i) = a)))) := by
 refine di Tryz.func55 rfl (fun m => .v) fun G nx => ?_
 simp only [Tryz.ntmps55, List.length_cons, List.length_nil, Nat.reduceAdd, Nat.reduceSub]
 refine cp fun hlt => ?_
 dsimp only at hlt
 refine yS fun _ K1 => ?_
 refine yR ?_
 refine yA rfl rfl ?_
 refine yN ?_
 dsimp only [St.put]
 refine K1 _ ?_
 refine yS fun _ K2 => ?_
 refine g8 [(0, none), (1, none), (3, none), (2, none), (4, none), (5, none)] (fun i => [].contains i) (fun i => [2].contains i) (fun i => [1, 4, 5].contains i) [] (by kernel_rfl) (by kernel_rfl) ?_
 try dsimp only [St.put]
 refine ai rfl rfl rfl rfl (aq rfl rfl (Enc.len _)) ?_
 refine xM rfl rfl rfl rfl rfl ?_
 try dsimp only [St.put]
 refine ai rfl rfl rfl rfl (bh rfl rfl) ?_
 refine j4 ?_
 try dsimp only [St.put]
 refine lg rfl rfl rfl (bl rfl rfl rfl (uc6 p R C s h hB hs) ⟨zD, ?_⟩)
 refine eo rfl rfl rfl rfl (f3 rfl rfl rfl) ?_
 refine eo rfl rfl rfl rfl (bf rfl (by constructor)) ?_
 refine j3 ?_
 dsimp only [St.put]
 refine K2 _ ?_
 refine bc ?_
 refine bx rfl (by constructor) zN zS ?_
 rfl
theorem uk2 (p : ak) (m : Int) (s : Int) (l : List Int) (h : gh p) (hl : l.length ≤ 1000) (hm : ∀ z ∈ l, 0 ≤ z ∧ z < (p.pages.length : Int)) : Pure Tryz.prog 77 [.v (.int .i64 s), lst l, .elem (cells (gq p (dm p) (d9 p))), .elem [.v (.int .i64 m)]] (.v (.bool (decide (ug0 p l ≤ m)))) := by
 refine di Tryz.func77 rfl (fun m => .v) fun G nx => ?_
 simp only [Tryz.ntmps77, List.length_cons, List.length_nil, Nat.reduceAdd, Nat.reduceSub]
 refine cp fun hlt => ?_
 dsimp only at hlt
 refine yS fun _ K1 => ?_
 refine yR ?_
 refine yA rfl rfl ?_
 refine yN ?_
 dsimp only [St.put]
 refine K1 _ ?_
 refine yS fun _ K2 => ?_
 refine yR ?_
 refine yE rfl rfl rfl ?_
 try dsimp only [St.put]
 refine af rfl (dt rfl ?_)
 try dsimp only [St.put]
 refine af rfl (da rfl rfl rfl zG rfl rfl (by rfl) ?_)
 refine yN ?_
 dsimp only [St.put]
 rw [show cells (gq p (dm p) (d9 p)) = cells (gq p (dm p) (li (d9 p) (l.take 0))) by rw [List.take_zero, uhc]]
 refine K2 _ ?_
 refine yS fun _ K3 => ?_
 refine yS fun _ K4 => ?_
 refine yR ?_
 refine yM rfl rfl ?_
 refine aa rfl (bj rfl rfl (List.length_map _)) ?_
 refine yM rfl rfl ?_
 refine yN ?_
 dsimp only [St.put]
 refine K4 _ ?_
 refine cb ?_
 refine dh 14 ?_
 refine zQ ?_
 refine du ((ay G nx (.box (0 + 1) (cells (gq p (dm p) (li (d9 p) (l.take 0))))))) zX ?_
 dsimp only
 refine dz (X := Nat) (fun k => k ≤ l.length) (fun k => l.length - k) (fun k => [(8, .any), (9, .any), (13, .v (.int .i64 (k : Int)))]) (fun k G' => (ay G nx (.box (k + 1) (cells (gq p (dm p) (li (d9 p) (l.take k))))))) 0 rfl ?_ ?_ ?_ ?_ ?_ ?_
 ·exact Nat.zero_le _
 ·exact zF
 ·exact zX
 ·rintro k hI
  exact zL
 ·rintro k hI
  exact zH
 rintro k hI
 dsimp only at hI ⊢
 refine yS fun _ K5 => ?_
 refine yR ?_
 refine aa rfl (c5 rfl rfl rfl) ?_
 refine yN ?_
 dsimp only [St.put]
 refine K5 _ ?_
 refine yS fun _ K6 => ?_
 refine bd rfl (fun hc => ?_) (fun hc => ?_)
 ·replace hc := of_decide_eq_true hc
  obtain ⟨z0, hz0⟩ : ∃ z, l[k]? = some z := d8 (by omega)
  have hzb := hm z0 (g5 hz0)
  obtain ⟨j, rfl⟩ : ∃ j : Nat, z0 = (j : Int) := ⟨z0.toNat, by omega⟩
  have hz := hz0
  obtain ⟨x, hx⟩ : ∃ x, p.pages[j]? = some x := d8 (by omega)
  have hB := ugk (vk h) (l.take k)
  refine bi ?_
  refine K6 _ ?_
  refine yS fun _ K7 => ?_
  refine cb ?_
  refine yS fun _ K8 => ?_
  refine yR ?_
  refine aa rfl (bk rfl rfl rfl rfl (bu (by assumption)) (Enc.len _)) ?_
  refine yL rfl rfl rfl ?_
  refine yA rfl rfl ?_
  refine yN ?_
  dsimp only [St.put]
  refine K8 _ ?_
  refine yR ?_
  try dsimp only [St.put]
  refine ae rfl (ca rfl rfl zG trivial (by rfl)) ?_
  refine yM rfl rfl ?_
  try dsimp only [St.put]
  refine af rfl (bl rfl rfl rfl (zl p (dm p) (li (d9 p) (l.take k)) j x 0 h hx (by omega) hB.r) ?_)
  try dsimp only [St.put]
  refine af rfl (da rfl rfl rfl zG rfl rfl (by rfl) ?_)
  refine yN ?_
  dsimp only [St.put]
  refine K7 _ ?_
  refine yR ?_
  refine aa rfl (cm rfl rfl rfl (by omega)) ?_
  refine yM rfl rfl ?_
  refine yN ?_
  dsimp only [St.put]
  rw [umd, ← uhb, ← ubx hz]
  exact ⟨k + 1, by omega, by omega, ⟨⟨rfl, rfl⟩, zF, zB, zN, zX⟩⟩
 replace hc := of_decide_eq_false hc
 rw [g9 (show l.length ≤ k by omega)]
 refine dq ?_
 refine K3 _ ?_
 refine yS fun _ K9 => ?_
 refine g8 [(0, none), (2, none), (1, none), (3, none), (4, none)] (fun i => [].contains i) (fun i => [1].contains i) (fun i => [3, 4].contains i) [nx] (by kernel_rfl) (by kernel_rfl) ?_
 try dsimp only [St.put]
 refine ai rfl rfl rfl rfl (ca rfl rfl zG (by simp) (by rfl)) ?_
 try dsimp only [St.put]
 refine ai rfl rfl rfl rfl (bh rfl rfl) ?_
 refine j4 ?_
 try dsimp only [St.put]
 refine lg rfl rfl rfl (bl rfl rfl rfl (t8 p (dm p) (li (d9 p) l) h (ugk (vk h) l)) ⟨zD, ?_⟩)
 refine eo rfl rfl rfl rfl (ug rfl rfl rfl) ?_
 refine eo rfl rfl rfl rfl (bf rfl (by constructor)) ?_
 refine j3 ?_
 dsimp only [St.put]
 refine K9 _ ?_
 refine bc ?_
 refine bx rfl (by constructor) zN zS ?_
 rfl
theorem ucq (p : ak) (R Q : Nat → Int) (a : Int) (N : Nat) : ∀ c ∈ [C.elem (cells (gq p R Q)), C.elem [C.v (.int .i64 a)]], C.low N c := ct (f8 _ _) (ct (.elem (ct .v dj)) dj)
set_option maxHeartbeats 1000000 in
theorem ukq (n : Nat) (p : ak) : fu n fm Tryz.prog 26 [val p] (.tup [lst (atE (gt p (dg p)) [] (n8 p (iq p))), lst (atE (gt p (dg p)) [] (na p (iq p))), .v (.int .i64 (gt p (dg p)))]) := fun G nx hF hnx => by
 refine ix (G) (nx) Tryz.func26 rfl (.tup (ct (co _ _) (ct (co _ _) (ct .v dj)))) zN (fun hlt => zH) ?_
 simp only [Tryz.ntmps26, List.length_cons, List.length_nil, Nat.reduceAdd, Nat.reduceSub]
 refine cp fun hlt => ?_
 dsimp only at hlt
 refine yS fun _ K1 => ?_
 refine yR ?_
 try dsimp only [St.put]
 refine yB rfl rfl rfl ?_
 refine yA rfl rfl ?_
 refine yA rfl rfl ?_
 refine yA rfl rfl ?_
 refine yN ?_
 dsimp only [St.put]
 refine K1 _ ?_
 refine yS fun _ K2 => ?_
 by_cases hL : gt p (dg p) = 0
 ·refine yR ?_
  refine yE rfl rfl rfl ?_
  try dsimp only [St.put]
  refine af rfl (eu rfl rfl rfl (oq n p) zG (by dsimp only [St.put]; omega) ?_)
  refine yX rfl rfl rfl rfl ?_
  refine yX rfl rfl rfl rfl ?_
  try dsimp only [St.put]
  refine af rfl (eu rfl rfl rfl (t6 n p (jx p) (dg p) p7 hL) zG (by dsimp only [St.put]; omega) ?_)
  refine yM rfl rfl ?_
  refine yX rfl rfl rfl rfl ?_
  refine yX rfl rfl rfl rfl ?_
  try dsimp only [St.put]
  refine af rfl (dt rfl ?_)
  try dsimp only [St.put]
  refine af rfl (da rfl rfl rfl zG rfl rfl (by rfl) ?_)
  refine yA rfl rfl ?_
  refine yN ?_
  dsimp only [St.put]
  refine K2 _ ?_
  refine yS fun _ K3 => ?_
  refine yS fun _ K4 => ?_
  refine yR ?_
  refine yM rfl rfl ?_
  refine aa rfl (fq rfl rfl rfl) ?_
  refine yN ?_
  dsimp only [St.put]
  refine K4 _ ?_
  refine bd rfl (fun hc => ?_) (fun hc => ?_)
  ·exact absurd hc (by decide)
  obtain ⟨h0, hTB⟩ := um hL
  obtain ⟨hok, _⟩ := mx h0
  have hn1 := hok.nf
  have hn2 := hok.ns
  have hnr : c4 p = p.firsts.length + p.seconds.length := rfl
  have hl1 := ju (c4 p) (dm p)
  have hB := vk hok
  have h64 : 2 ^ c4 p ≤ 2 ^ 6 := Nat.pow_le_pow_right (by omega) (by omega)
  have hwl : (iq p).length ≤ 6 := by
   have := ugg (rf p) (c4 p)
   show (n4 (rf p) (c4 p)).length ≤ 6
   omega
  refine bi ?_
  refine K3 _ ?_
  refine yS fun _ K5 => ?_
  refine yR ?_
  try dsimp only [St.put]
  refine ae rfl (ca rfl rfl zG trivial (by rfl)) ?_
  try dsimp only [St.put]
  refine af rfl (bl rfl rfl rfl (t8 p (dm p) (d9 p) hok hB) ?_)
  try dsimp only [St.put]
  refine af rfl (dt rfl ?_)
  try dsimp only [St.put]
  refine af rfl (da rfl rfl rfl zG rfl rfl (by rfl) ?_)
  refine yN ?_
  dsimp only [St.put]
  refine K5 _ ?_
  refine gl (i := 5) rfl zG zC ?_
  refine gl (i := 6) rfl zG zC ?_
  dsimp only
  refine yS fun _ K6 => ?_
  refine yS fun _ K7 => ?_
  refine yR ?_
  refine yF rfl rfl rfl rfl ?_
  refine yL rfl rfl rfl ?_
  refine aa rfl (bj rfl rfl (List.length_map _)) ?_
  try dsimp only [St.put]
  refine af rfl (bl rfl rfl rfl (uca (dd (c4 p) (dm p)).length) ?_)
  refine aa rfl (pk rfl rfl) ?_
  try dsimp only [St.put]
  refine af rfl (eu rfl rfl rfl (ue9 n (dd (c4 p) (dm p)).length (rf p) 55 [.elem (cells (gq p (dm p) (d9 p))), .elem [.v (.int .i64 ((cw p).most (dm p) (d9 p)))]] (by rw [hl1]; omega) (ucq p _ _ _) (fun s hs => ukr p (dm p) (d9 p) _ s _ hok hB (by rw [hl1] at hs; omega))) zG (by dsimp only [St.put]; omega) ?_)
  refine aa rfl (bj rfl rfl (List.length_map _)) ?_
  refine yM rfl rfl ?_
  refine yN ?_
  dsimp only [St.put]
  rw [hl1, show n4 (rf p) (c4 p) = iq p from rfl]
  refine K7 _ ?_
  refine qw 2 3 1 rfl (by decide) ?_
  refine qw 3 3 1 rfl (by decide) ?_
  dsimp only [List.set_cons_zero, List.set_cons_succ]
  refine cb ?_
  refine dh 30 ?_
  refine zQ ?_
  refine du ((ay (ay G (nx + 1 + 1) (.tip (n8 p ((iq p).take 0)).length 3 1)) (nx + 1 + 1 + 1) (.tip (na p ((iq p).take 0)).length 3 1))) zX ?_
  dsimp only
  refine dz (X := Nat) (fun k => k ≤ (iq p).length) (fun k => (iq p).length - k) (fun k => [(2, .list ((n8 p ((iq p).take k)).map cells) (.tip (nx + 1 + 1))), (3, .list ((na p ((iq p).take k)).map cells) (.tip (nx + 1 + 1 + 1))), (8, .any), (29, .v (.int .i64 (k : Int)))]) (fun k G' => (ay (ay G (nx + 1 + 1) (.tip (n8 p ((iq p).take k)).length 3 1)) (nx + 1 + 1 + 1) (.tip (na p ((iq p).take k)).length 3 1))) 0 rfl ?_ ?_ ?_ ?_ ?_ ?_
  ·exact Nat.zero_le _
  ·exact zF
  ·exact zX
  ·rintro k hI
   exact zL
  ·rintro k hI
   exact zH
  rintro k hK
  dsimp only at hK ⊢
  refine yS fun _ K8 => ?_
  refine yR ?_
  refine aa rfl (c5 rfl rfl rfl) ?_
  refine yN ?_
  dsimp only [St.put]
  refine K8 _ ?_
  refine yS fun _ K9 => ?_
  refine bd rfl (fun hc => ?_) (fun hc => ?_)
  ·replace hc := of_decide_eq_true hc
   obtain ⟨z, hz⟩ : ∃ z, (iq p)[k]? = some z := d8 (by omega)
   have hzb := uhu (g5 hz)
   have hF3 := uhv p ((iq p).take k) z
   have hS3 := uhs p ((iq p).take k) z
   rw [← ubx hz] at hF3 hS3
   have hlF := uhw p ((iq p).take k)
   have hlS := uht p ((iq p).take k)
   have hlt2 : ((iq p).take k).length ≤ 6 := by rw [List.length_take]; omega
   refine bi ?_
   refine K9 _ ?_
   refine yS fun _ K10 => ?_
   refine cb ?_
   refine yS fun _ K11 => ?_
   refine yR ?_
   refine aa rfl (bk rfl rfl rfl rfl (bu (by assumption)) (Enc.len _)) ?_
   refine yL rfl rfl rfl ?_
   refine yA rfl rfl ?_
   refine yN ?_
   dsimp only [St.put]
   refine K11 _ ?_
   refine yS fun _ K12 => ?_
   refine yR ?_
   refine yM rfl rfl ?_
   refine yF rfl rfl rfl rfl ?_
   refine yL rfl rfl rfl ?_
   refine aa rfl (bj rfl rfl (List.length_map _)) ?_
   refine aa rfl (c5 rfl rfl rfl) ?_
   refine yN ?_
   dsimp only [St.put]
   refine K12 _ ?_
   refine bd rfl (fun hc => ?_) (fun hc => ?_)
   ·have hyes := of_decide_eq_true hc
    refine yR ?_
    refine yM rfl rfl ?_
    refine yM rfl rfl ?_
    try dsimp only [St.put]
    refine af rfl (el rfl rfl rfl (by decide) (by decide) zR (by decide) ?_)
    try dsimp only [St.put]
    refine af rfl (l4 ([z]) rfl rfl zG zE rfl rfl zA ?_ zA)
    refine yA rfl rfl ?_
    refine yN ?_
    dsimp only [St.put]
    refine K10 _ ?_
    refine yR ?_
    refine aa rfl (cm rfl rfl rfl (by omega)) ?_
    refine yM rfl rfl ?_
    refine yN ?_
    dsimp only [St.put]
    first
    | (have hy2 : z < (p.firsts.length : Int) := hyes
       rw [decide_eq_true hy2, cond_true] at hF3 hS3
       rw [List.append_nil] at hS3
       simp only [← hF3]
       rw [← hS3]
       exact ⟨k + 1, by omega, by omega, ⟨⟨rfl, rfl⟩, zF, zB, zN, zX⟩⟩)
    | (have hy2 : ¬ z < (p.firsts.length : Int) := hno
       rw [decide_eq_false hy2, cond_false] at hF3 hS3
       rw [List.append_nil] at hF3
       simp only [← hS3]
       rw [← hF3]
       exact ⟨k + 1, by omega, by omega, ⟨⟨rfl, rfl⟩, zF, zB, zN, zX⟩⟩)
   have hno := of_decide_eq_false hc
   refine yR ?_
   refine yM rfl rfl ?_
   refine yM rfl rfl ?_
   refine yF rfl rfl rfl rfl ?_
   refine yL rfl rfl rfl ?_
   refine aa rfl (bj rfl rfl (List.length_map _)) ?_
   refine aa rfl (ir rfl rfl rfl (by omega)) ?_
   try dsimp only [St.put]
   refine af rfl (el rfl rfl rfl (by decide) (by decide) zR (by decide) ?_)
   try dsimp only [St.put]
   refine af rfl (l4 ([z - (p.firsts.length : Int)]) rfl rfl zG zE rfl rfl zA ?_ zA)
   refine yA rfl rfl ?_
   refine yN ?_
   dsimp only [St.put]
   refine K10 _ ?_
   refine yR ?_
   refine aa rfl (cm rfl rfl rfl (by omega)) ?_
   refine yM rfl rfl ?_
   refine yN ?_
   dsimp only [St.put]
   first
   | (have hy2 : z < (p.firsts.length : Int) := hyes
      rw [decide_eq_true hy2, cond_true] at hF3 hS3
      rw [List.append_nil] at hS3
      simp only [← hF3]
      rw [← hS3]
      exact ⟨k + 1, by omega, by omega, ⟨⟨rfl, rfl⟩, zF, zB, zN, zX⟩⟩)
   | (have hy2 : ¬ z < (p.firsts.length : Int) := hno
      rw [decide_eq_false hy2, cond_false] at hF3 hS3
      rw [List.append_nil] at hF3
      simp only [← hS3]
      rw [← hF3]
      exact ⟨k + 1, by omega, by omega, ⟨⟨rfl, rfl⟩, zF, zB, zN, zX⟩⟩)
  replace hc := of_decide_eq_false hc
  refine dq ?_
  refine K6 _ ?_
  refine yS fun _ K13 => ?_
  refine yR ?_
  refine yM rfl rfl ?_
  refine yM rfl rfl ?_
  refine yA rfl rfl ?_
  refine yA rfl rfl ?_
  refine yA rfl rfl ?_
  refine yN ?_
  dsimp only [St.put]
  refine K13 _ ?_
  refine bc ?_
  refine ufk rfl (ep (by constructor)) (ep (by constructor)) (ep (by constructor)) zN zS ?_ ?_ ?_
  ·rw [hL, qb, g9 (show (iq p).length ≤ k by omega)]; exact zW
  ·rw [hL, qb, g9 (show (iq p).length ≤ k by omega)]; exact zW
  rw [hL]; exact zW
 refine yR ?_
 refine yE rfl rfl rfl ?_
 try dsimp only [St.put]
 refine af rfl (eu rfl rfl rfl (oq n p) zG (by dsimp only [St.put]; omega) ?_)
 refine yX rfl rfl rfl rfl ?_
 refine yX rfl rfl rfl rfl ?_
 try dsimp only [St.put]
 refine af rfl (eu rfl rfl rfl (t7 n p (jx p) (dg p) p7 hL) zG (by dsimp only [St.put]; omega) ?_)
 refine yM rfl rfl ?_
 refine yX rfl rfl rfl rfl ?_
 refine yX rfl rfl rfl rfl ?_
 try dsimp only [St.put]
 refine af rfl (dt rfl ?_)
 try dsimp only [St.put]
 refine af rfl (da rfl rfl rfl zG rfl rfl (by rfl) ?_)
 refine yA rfl rfl ?_
 refine yN ?_
 dsimp only [St.put]
 refine K2 _ ?_
 refine yS fun _ K14 => ?_
 refine yS fun _ K15 => ?_
 refine yR ?_
 refine yM rfl rfl ?_
 refine aa rfl (fq rfl rfl rfl) ?_
 refine yN ?_
 dsimp only [St.put]
 refine K15 _ ?_
 refine bd rfl (fun hc => ?_) (fun hc => ?_)
 ·try replace hc := of_decide_eq_true hc
  refine yS fun _ K16 => ?_
  refine yR ?_
  refine yM rfl rfl ?_
  refine yA rfl rfl ?_
  refine yA rfl rfl ?_
  refine yA rfl rfl ?_
  refine yN ?_
  dsimp only [St.put]
  refine K16 _ ?_
  refine bc ?_
  refine ufk rfl (ep (by constructor)) (ep (by constructor)) (ep (by constructor)) zN zS ?_ ?_ ?_
  ·rw [l6 hL]; exact zW
  ·rw [l6 hL]; exact zW
  exact zW
 exact absurd (iy hc) hL
set_option maxHeartbeats 1000000 in
theorem uk1 (n : Nat) (p : ak) (m : Int) : fu n fm Tryz.prog 58 [val p, .v (.int .i64 m)] (.tup [lst (kh p m), .v (.int .i64 (jf p m))]) := fun G nx hF hnx => by
 refine ix (G) (nx) Tryz.func58 rfl (.tup (ct (co _ _) (ct .v dj))) zN (fun hlt => zH) ?_
 simp only [Tryz.ntmps58, List.length_cons, List.length_nil, Nat.reduceAdd, Nat.reduceSub]
 refine cp fun hlt => ?_
 dsimp only at hlt
 refine yS fun _ K1 => ?_
 refine yR ?_
 try dsimp only [St.put]
 refine yB rfl rfl rfl ?_
 try dsimp only [St.put]
 refine yB rfl rfl rfl ?_
 refine yA rfl rfl ?_
 refine yA rfl rfl ?_
 refine yN ?_
 dsimp only [St.put]
 refine K1 _ ?_
 refine yS fun _ K2 => ?_
 refine yR ?_
 refine yE rfl rfl rfl ?_
 try dsimp only [St.put]
 refine af rfl (eu rfl rfl rfl (oq n p) zG (by dsimp only [St.put]; omega) ?_)
 refine yM rfl rfl ?_
 refine yX rfl rfl rfl rfl ?_
 refine yX rfl rfl rfl rfl ?_
 refine yA rfl rfl ?_
 refine yA rfl rfl ?_
 refine yN ?_
 dsimp only [St.put]
 refine K2 _ ?_
 refine yS fun _ K3 => ?_
 refine yS fun _ K4 => ?_
 refine yR ?_
 refine yM rfl rfl ?_
 refine aa rfl (fq rfl rfl rfl) ?_
 refine yN ?_
 dsimp only [St.put]
 refine K4 _ ?_
 refine bd rfl (fun hc => ?_) (fun hc => ?_)
 ·have h0 : dg p ≠ 0 := j8 hc
  have hE : jf p m = dg p := uoh h0
  have hV : kh p m = [] := by unfold kh; rw [hE, l6 h0]
  refine yS fun _ K5 => ?_
  refine yR ?_
  refine yM rfl rfl ?_
  refine yA rfl rfl ?_
  refine yA rfl rfl ?_
  refine yN ?_
  dsimp only [St.put]
  refine K5 _ ?_
  refine bc ?_
  refine ii rfl (ep (by constructor)) (ep (by constructor)) zN zS ?_ ?_
  ·rw [hV]; exact zW
  rw [hE]; exact zW
 have h0 : dg p = 0 := iy hc
 obtain ⟨hok, _⟩ := mx h0
 have hnp := hok.np
 refine bi ?_
 refine K3 _ ?_
 refine yS fun _ K6 => ?_
 refine yS fun _ K7 => ?_
 refine yR ?_
 refine yL rfl rfl rfl ?_
 refine aa rfl (c5 rfl rfl rfl) ?_
 refine yN ?_
 dsimp only [St.put]
 refine K7 _ ?_
 refine bd rfl (fun hc => ?_) (fun hc => ?_)
 ·have hm : m < 0 := of_decide_eq_true hc
  have hE : jf p m = 2 := uog h0 hm
  have hV : kh p m = [] := by unfold kh; rw [hE, l6 (by decide)]
  refine yS fun _ K8 => ?_
  refine yR ?_
  refine yA rfl rfl ?_
  refine yA rfl rfl ?_
  refine yN ?_
  dsimp only [St.put]
  refine K8 _ ?_
  refine bc ?_
  refine ii rfl (ep (by constructor)) (ep (by constructor)) zN zS ?_ ?_
  ·rw [hV]; exact zW
  rw [hE]; exact zW
 have hm : ¬ m < 0 := of_decide_eq_false hc
 refine bi ?_
 refine K6 _ ?_
 refine yS fun _ K9 => ?_
 by_cases hL : gt p (dg p) = 0
 ·refine yR ?_
  refine yM rfl rfl ?_
  refine yM rfl rfl ?_
  try dsimp only [St.put]
  refine af rfl (eu rfl rfl rfl (t6 n p (jx p) (dg p) p7 hL) zG (by dsimp only [St.put]; omega) ?_)
  refine yM rfl rfl ?_
  refine yX rfl rfl rfl rfl ?_
  refine yX rfl rfl rfl rfl ?_
  try dsimp only [St.put]
  refine af rfl (dt rfl ?_)
  try dsimp only [St.put]
  refine af rfl (da rfl rfl rfl zG rfl rfl (by rfl) ?_)
  refine yA rfl rfl ?_
  refine yN ?_
  dsimp only [St.put]
  refine K9 _ ?_
  refine gl (i := 8) rfl zG zC ?_
  dsimp only
  refine yS fun _ K10 => ?_
  refine yS fun _ K11 => ?_
  refine yR ?_
  refine yM rfl rfl ?_
  refine aa rfl (fq rfl rfl rfl) ?_
  refine yN ?_
  dsimp only [St.put]
  refine K11 _ ?_
  refine bd rfl (fun hc => ?_) (fun hc => ?_)
  ·exact absurd hc (by decide)
  have hTB := (um hL).2
  have hE : jf p m = 0 := uof h0 hm hTB
  have hV : kh p m = n4 (vh p m) p.pages.length := by unfold kh; rw [hE, qb]
  refine bi ?_
  refine K10 _ ?_
  refine yS fun _ K12 => ?_
  refine yR ?_
  refine yF rfl rfl rfl rfl ?_
  refine yL rfl rfl rfl ?_
  refine aa rfl (bj rfl rfl (List.length_map _)) ?_
  try dsimp only [St.put]
  refine af rfl (bl rfl rfl rfl (uca p.pages.length) ?_)
  refine aa rfl (pk rfl rfl) ?_
  try dsimp only [St.put]
  refine af rfl (eu rfl rfl rfl (ue9 n p.pages.length (vh p m) 77 [.elem (cells (gq p (dm p) (d9 p))), .elem [.v (.int .i64 m)]] hnp (ucq p _ _ _) (fun s _ => uk2 p m s _ hok (by have := uh p.pages.length s; omega) (fun z hz => by obtain ⟨i, rfl, hi, _⟩ := membersL_mem.1 hz; omega))) zG (by dsimp only [St.put]; omega) ?_)
  refine yA rfl rfl ?_
  refine yA rfl rfl ?_
  refine yN ?_
  dsimp only [St.put]
  refine K12 _ ?_
  refine bc ?_
  refine ii rfl (ep (by constructor)) (ep (by constructor)) zN zS ?_ ?_
  ·rw [hV]; exact zW
  rw [hE]; exact zW
 refine yR ?_
 refine yM rfl rfl ?_
 refine yM rfl rfl ?_
 try dsimp only [St.put]
 refine af rfl (eu rfl rfl rfl (t7 n p (jx p) (dg p) p7 hL) zG (by dsimp only [St.put]; omega) ?_)
 refine yM rfl rfl ?_
 refine yX rfl rfl rfl rfl ?_
 refine yX rfl rfl rfl rfl ?_
 try dsimp only [St.put]
 refine af rfl (dt rfl ?_)
 try dsimp only [St.put]
 refine af rfl (da rfl rfl rfl zG rfl rfl (by rfl) ?_)
 refine yA rfl rfl ?_
 refine yN ?_
 dsimp only [St.put]
 refine K9 _ ?_
 refine gl (i := 8) rfl zG zC ?_
 dsimp only
 refine yS fun _ K13 => ?_
 refine yS fun _ K14 => ?_
 refine yR ?_
 refine yM rfl rfl ?_
 refine aa rfl (fq rfl rfl rfl) ?_
 refine yN ?_
 dsimp only [St.put]
 refine K14 _ ?_
 refine bd rfl (fun hc => ?_) (fun hc => ?_)
 ·have hTB : jt p = false := by
   cases h : jt p
   ·rfl
   exact absurd (by rw [h0, ul, h]; rfl) hL
  have hE : jf p m = 8 := uoi h0 hm hTB
  have hV : kh p m = [] := by unfold kh; rw [hE, l6 (by decide)]
  have hL8 : gt p (dg p) = 8 := by rw [h0, ul, hTB]; rfl
  refine yS fun _ K15 => ?_
  refine yR ?_
  refine yM rfl rfl ?_
  refine yA rfl rfl ?_
  refine yA rfl rfl ?_
  refine yN ?_
  dsimp only [St.put]
  refine K15 _ ?_
  refine bc ?_
  refine ii rfl (ep (by constructor)) (ep (by constructor)) zN zS ?_ ?_
  ·rw [hV]; exact zW
  rw [hE, hL8]; exact zW
 exact absurd (iy hc) hL
end Go.Proofs.YtgffhbbcpgdjjaaGreatDoor
namespace Go.AB
open Go Go.RowKit
open Go.AB.Enc (cells)
open Go.PB (bg aj PlaceD bn bq bp ck az ak dc ce dr dv)
def rk (p : ak) : Bool := !oz p && decide (dg p = 0)
section
variable {P : Program} {o : Oper} {st : St} {K : St → Prop}
/-- What stands in a slot is known less well, ahead of an operation. -/
theorem e_wk (i : Nat) {c : C} (c' : C) (h0 : st.at i = c) (hw : Wk c c') (h : EStep P o { st with r := (i, c') :: st.r } K) : EStep P o st K := by
 intro E w a hs
 have hp := hs.at i
 rw [h0] at hp
 refine h E w a ⟨hs.d, hs.sz, fun j v hj => ?_, hs.g⟩
 simp only [cy]
 cases hb : Nat.beq i j
 ·exact hs.t j v hj
 have hij := Nat.eq_of_beq_eq_true hb
 subst hij
 have hv : a.tmps.getD i undef = v := by rw [Array.getD_eq_getD_getElem?, hj]; rfl
 rw [hv] at hp
 exact hw.2 _ _ _ hp
end
theorem l7 {α : Type} [Enc α] (l : List α) : ∀ r ∈ l.map cells, r.length = Enc.n α := fun r hr => by
 obtain ⟨y, _, rfl⟩ := List.mem_map.1 hr
 exact Enc.len y
theorem readyP_true {p : ak} : rk p = true ↔ oz p = false ∧ dg p = 0 := by simp [rk]
end Go.AB
namespace Go.Proofs.YtgffhbbcpgdjjaaGreatDoor
set_option maxRecDepth 10000
open Go Go.RowKit Go.AB
open Go.AB.Enc (cells)
open Go.PB (bg aj PlaceD bn bq bp ck az ak dc ce dr dv)
theorem uel (a : List PlaceD) : Pure Tryz.prog 27 [lst a, lst a] (.v (.bool true)) := by
 have := upx a a
 rwa [decide_eq_true rfl] at this
theorem uem (a : List Int) (ha : a.length ≤ 1000) : Pure Tryz.prog 31 [lst a, lst a] (.v (.bool true)) := by
 have := ucu a a ha
 rwa [decide_eq_true rfl] at this
theorem qq (a b c : Int) : Pure Tryz.prog 29 [.v (.int .i64 a), .v (.int .i64 b), .v (.int .i64 c)] (val (⟨a, b, c⟩ : PlaceD)) := by
 refine di Tryz.func29 rfl (fun m => (ey _ _)) fun G nx => ?_
 simp only [Tryz.ntmps29, List.length_cons, List.length_nil, Nat.reduceAdd, Nat.reduceSub]
 refine cp fun hlt => ?_
 dsimp only at hlt
 refine yS fun _ K1 => ?_
 refine yR ?_
 try dsimp only [St.put]
 refine af rfl (dt rfl ?_)
 refine yN ?_
 dsimp only [St.put]
 refine K1 _ ?_
 refine yS fun _ K2 => ?_
 refine yR ?_
 refine yM rfl rfl ?_
 refine yM rfl rfl ?_
 refine yM rfl rfl ?_
 refine aa rfl (ie rfl rfl) ?_
 try dsimp only [St.put]
 refine af rfl (da rfl rfl rfl zG rfl rfl (by rfl) ?_)
 refine yN ?_
 dsimp only [St.put]
 refine K2 _ ?_
 refine bc ?_
 refine si rfl (i9 rfl zG (by rfl) zC rfl) zN zS ?_
 exact zW
theorem ur (l : List PlaceD) : Pure Tryz.prog 28 [lst l] (lst l) := by
 refine di Tryz.func28 rfl (fun m => (co _ _)) fun G nx => ?_
 simp only [Tryz.ntmps28, List.length_cons, List.length_nil, Nat.reduceAdd, Nat.reduceSub]
 refine cp fun hlt => ?_
 dsimp only at hlt
 refine yS fun _ K1 => ?_
 refine yR ?_
 refine yA rfl rfl ?_
 refine yN ?_
 dsimp only [St.put]
 refine K1 _ ?_
 refine yS fun _ K2 => ?_
 refine yR ?_
 refine yM rfl rfl ?_
 refine yA rfl rfl ?_
 refine yN ?_
 dsimp only [St.put]
 refine K2 _ ?_
 refine bc ?_
 refine bx rfl (by constructor) zN zS ?_
 rfl
theorem ny : Pure Tryz.prog 23 [] (val exPr) := by
 refine di Tryz.func23 rfl (fun m => (ey _ _)) fun G nx => ?_
 simp only [Tryz.ntmps23, List.length_cons, List.length_nil, Nat.reduceAdd, Nat.reduceSub]
 refine cp fun hlt => ?_
 dsimp only at hlt
 refine yS fun _ K1 => ?_
 refine yR ?_
 try dsimp only [St.put]
 refine af rfl (dt rfl ?_)
 refine yN ?_
 dsimp only [St.put]
 refine K1 _ ?_
 refine yS fun _ K2 => ?_
 refine yR ?_
 try dsimp only [St.put]
 refine af rfl (el (rows := ([m7, ja, xIs, m8] : List ByteArray).map cells) rfl rfl rfl (by decide) (by decide) (l7 _) (by decide) ?_)
 try dsimp only [St.put]
 refine af rfl (el (rows := ([m8, m7, ja] : List ByteArray).map cells) rfl rfl rfl (by decide) (by decide) (l7 _) (by decide) ?_)
 try dsimp only [St.put]
 refine af rfl (el (rows := ([[m7, ja, xIs, m8], [m8, m7, ja]] : List (List ByteArray)).map cells) rfl rfl rfl (by decide) (by decide) (l7 _) (by decide) ?_)
 refine aa rfl (ie (cs := cells (⟨7, [[m7, ja, xIs, m8], [m8, m7, ja]]⟩ : bg)) rfl rfl) ?_
 try dsimp only [St.put]
 refine af rfl (el (rows := ([ja, s8, ja] : List ByteArray).map cells) rfl rfl rfl (by decide) (by decide) (l7 _) (by decide) ?_)
 try dsimp only [St.put]
 refine af rfl (el (rows := ([[ja, s8, ja]] : List (List ByteArray)).map cells) rfl rfl rfl (by decide) (by decide) (l7 _) (by decide) ?_)
 refine aa rfl (ie (cs := cells (⟨3, [[ja, s8, ja]]⟩ : bg)) rfl rfl) ?_
 try dsimp only [St.put]
 refine af rfl (el (rows := ([⟨7, [[m7, ja, xIs, m8], [m8, m7, ja]]⟩, ⟨3, [[ja, s8, ja]]⟩] : List bg).map cells) rfl rfl rfl (by decide) (by decide) (l7 _) (by decide) ?_)
 refine aa rfl (ie (cs := [lst exTx]) rfl rfl) ?_
 refine aa rfl (ie (cs := cells (⟨1, 50⟩ : ck)) rfl rfl) ?_
 refine aa rfl (ie (cs := cells (⟨2, 0⟩ : ck)) rfl rfl) ?_
 try dsimp only [St.put]
 refine af rfl (el (rows := ([⟨1, 50⟩, ⟨2, 0⟩] : List ck).map cells) rfl rfl rfl (by decide) (by decide) (l7 _) (by decide) ?_)
 refine aa rfl (ie (cs := cells (⟨3, 60⟩ : ck)) rfl rfl) ?_
 try dsimp only [St.put]
 refine af rfl (el (rows := ([⟨3, 60⟩] : List ck).map cells) rfl rfl rfl (by decide) (by decide) (l7 _) (by decide) ?_)
 try dsimp only [St.put]
 refine af rfl (bl rfl rfl rfl (qq _ _ _) ?_)
 try dsimp only [St.put]
 refine af rfl (el (rows := ([⟨0, 0, 0⟩] : List PlaceD).map cells) rfl rfl rfl (by decide) (by decide) (l7 _) (by decide) ?_)
 try dsimp only [St.put]
 refine af rfl (bl rfl rfl rfl (ur [⟨0, 0, 0⟩]) ?_)
 try dsimp only [St.put]
 refine af rfl (bl rfl rfl rfl (qq _ _ _) ?_)
 try dsimp only [St.put]
 refine af rfl (bl rfl rfl rfl (qq _ _ _) ?_)
 try dsimp only [St.put]
 refine af rfl (el (rows := ([⟨0, 0, 0⟩, ⟨0, 0, 3⟩] : List PlaceD).map cells) rfl rfl rfl (by decide) (by decide) (l7 _) (by decide) ?_)
 try dsimp only [St.put]
 refine af rfl (bl rfl rfl rfl (ur [⟨0, 0, 0⟩, ⟨0, 0, 3⟩]) ?_)
 refine aa rfl (ie (cs := cells (⟨0, 0, 0, 0, [⟨0, 0, 0⟩], [⟨0, 0, 0⟩, ⟨0, 0, 3⟩]⟩ : az)) rfl rfl) ?_
 try dsimp only [St.put]
 refine af rfl (bl rfl rfl rfl (qq _ _ _) ?_)
 try dsimp only [St.put]
 refine af rfl (el (rows := ([⟨0, 1, 1⟩] : List PlaceD).map cells) rfl rfl rfl (by decide) (by decide) (l7 _) (by decide) ?_)
 try dsimp only [St.put]
 refine af rfl (bl rfl rfl rfl (ur [⟨0, 1, 1⟩]) ?_)
 refine aa rfl (ie (cs := [.v (.int .i64 1), .v (.int .i64 2), .v (.int .i64 0), .v (.int .i64 (-1)), lst ([⟨0, 1, 1⟩] : List PlaceD), .list [] .nil]) rfl rfl) ?_
 try dsimp only [St.put]
 refine af rfl (e_wk 26 (val (⟨1, 2, 0, -1, [⟨0, 1, 1⟩], []⟩ : az)) rfl (by show Wk _ (.agg _); exact zW) ?_)
 dsimp only
 refine el (rows := ([⟨0, 0, 0, 0, [⟨0, 0, 0⟩], [⟨0, 0, 0⟩, ⟨0, 0, 3⟩]⟩, ⟨1, 2, 0, -1, [⟨0, 1, 1⟩], []⟩] : List az).map cells) rfl rfl rfl (by decide) (by decide) (l7 _) (by decide) ?_
 refine aa rfl (ie (cs := [lst exTx, lst exPr.firsts, lst exPr.seconds, lst exPr.pages]) rfl rfl) ?_
 try dsimp only [St.put]
 refine af rfl (da rfl rfl rfl zG rfl rfl (by rfl) ?_)
 refine yN ?_
 dsimp only [St.put]
 refine K2 _ ?_
 refine bc ?_
 refine si rfl (i9 rfl zG (by rfl) zC rfl) zN zS ?_
 exact zW
theorem umu (n : Nat) (b : Bool) (r want : Int) : fu n fm Tryz.prog 30 [.v (.bool b), .v (.int .i64 r), .v (.int .i64 want)] (.v (.bool (decide (kp exPr b r = 0) && decide (o7 exPr b r = want)))) := fun G nx hF hnx => by
 refine ix (G) (nx) Tryz.func30 rfl (.v) zN (fun hlt => zH) ?_
 simp only [Tryz.ntmps30, List.length_cons, List.length_nil, Nat.reduceAdd, Nat.reduceSub]
 refine cp fun hlt => ?_
 dsimp only at hlt
 refine yS fun _ K1 => ?_
 refine yR ?_
 refine yA rfl rfl ?_
 refine yN ?_
 dsimp only [St.put]
 refine K1 _ ?_
 refine yS fun _ K2 => ?_
 refine yR ?_
 try dsimp only [St.put]
 refine af rfl (bl rfl rfl rfl (ny) ?_)
 refine yM rfl rfl ?_
 refine yM rfl rfl ?_
 try dsimp only [St.put]
 refine af rfl (eu rfl rfl rfl (uk3 n exPr b r) zG (by dsimp only [St.put]; omega) ?_)
 refine yM rfl rfl ?_
 refine yX rfl rfl rfl rfl ?_
 refine yX rfl rfl rfl rfl ?_
 refine yA rfl rfl ?_
 refine yA rfl rfl ?_
 refine yN ?_
 dsimp only [St.put]
 refine K2 _ ?_
 refine yS fun _ K3 => ?_
 refine yR ?_
 refine yM rfl rfl ?_
 refine aa rfl (f3 rfl rfl rfl) ?_
 refine er (fun hs => ?_) (fun hs => ?_)
 ·have h1 : decide (kp exPr b r = 0) = true := hs
  refine yM rfl rfl ?_
  refine yM rfl rfl ?_
  refine yM rfl rfl ?_
  refine aa rfl (f3 rfl rfl rfl) ?_
  refine aa rfl (cn rfl rfl (by constructor)) ?_
  refine yA rfl rfl ?_
  refine yN ?_
  dsimp only [St.put]
  refine K3 _ ?_
  refine bc ?_
  refine bx rfl (by constructor) zN zS ?_
  exact vb (by rw [h1]; rfl)
 have h1 : decide (kp exPr b r = 0) = false := hs
 refine yM rfl rfl ?_
 refine yK rfl ?_
 refine yK rfl ?_
 refine yK rfl ?_
 refine aa rfl (cv rfl rfl (by constructor)) ?_
 refine yA rfl rfl ?_
 refine yN ?_
 dsimp only [St.put]
 refine K3 _ ?_
 refine bc ?_
 refine bx rfl (by constructor) zN zS ?_
 exact vb (by rw [h1]; rfl)
theorem umt (n : Nat) (m : Int) (want : List Int) : fu n fm Tryz.prog 32 [.v (.int .i64 m), lst want] (.v (.bool (decide (jf exPr m = 0) && decide (kh exPr m = want)))) := fun G nx hF hnx => by
 refine ix (G) (nx) Tryz.func32 rfl (.v) zN (fun hlt => zH) ?_
 simp only [Tryz.ntmps32, List.length_cons, List.length_nil, Nat.reduceAdd, Nat.reduceSub]
 refine cp fun hlt => ?_
 dsimp only at hlt
 have hcl : (kh exPr m).length ≤ 1000 := by
  unfold kh atE
  cases decide (jf exPr m = 0)
  ·exact Nat.zero_le _
  have := ugg (vh exPr m) exPr.pages.length
  have e : exPr.pages.length = 2 := rfl
  show (n4 (vh exPr m) exPr.pages.length).length ≤ 1000
  omega
 refine yS fun _ K1 => ?_
 refine yR ?_
 refine yA rfl rfl ?_
 refine yN ?_
 dsimp only [St.put]
 refine K1 _ ?_
 refine yS fun _ K2 => ?_
 refine yR ?_
 try dsimp only [St.put]
 refine af rfl (bl rfl rfl rfl (ny) ?_)
 refine yM rfl rfl ?_
 try dsimp only [St.put]
 refine af rfl (eu rfl rfl rfl (uk1 n exPr m) zG (by dsimp only [St.put]; omega) ?_)
 refine yM rfl rfl ?_
 refine yX rfl rfl rfl rfl ?_
 refine yX rfl rfl rfl rfl ?_
 refine yA rfl rfl ?_
 refine yA rfl rfl ?_
 refine yN ?_
 dsimp only [St.put]
 refine K2 _ ?_
 refine yS fun _ K3 => ?_
 refine yR ?_
 refine yM rfl rfl ?_
 refine aa rfl (f3 rfl rfl rfl) ?_
 refine er (fun hs => ?_) (fun hs => ?_)
 ·have h1 : decide (jf exPr m = 0) = true := hs
  refine yM rfl rfl ?_
  refine yM rfl rfl ?_
  refine yM rfl rfl ?_
  try dsimp only [St.put]
  refine af rfl (bl rfl rfl rfl (ucu (kh exPr m) want hcl) ?_)
  refine aa rfl (cn rfl rfl (by constructor)) ?_
  refine yA rfl rfl ?_
  refine yN ?_
  dsimp only [St.put]
  refine K3 _ ?_
  refine bc ?_
  refine bx rfl (by constructor) zN zS ?_
  exact vb (by rw [h1]; rfl)
 have h1 : decide (jf exPr m = 0) = false := hs
 refine yM rfl rfl ?_
 refine yK rfl ?_
 refine yK rfl ?_
 refine yK rfl ?_
 refine aa rfl (cv rfl rfl (by constructor)) ?_
 refine yA rfl rfl ?_
 refine yN ?_
 dsimp only [St.put]
 refine K3 _ ?_
 refine bc ?_
 refine bx rfl (by constructor) zN zS ?_
 exact vb (by rw [h1]; rfl)
theorem upk (n : Nat) : fu n fm Tryz.prog 17 [val exPr, .v (.int .i64 1)] (.tup [.v (.int .i64 6), .v (.int .i64 0)]) := by
 have := uc4 n exPr 1
 rwa [xp_words.1, xp_words.2.1] at this
theorem upo (n : Nat) : fu n fm Tryz.prog 18 [val exPr, .v (.int .i64 0)] (.tup [lst ([⟨0, 0, 0⟩, ⟨0, 0, 3⟩] : List PlaceD), .v (.int .i64 0)]) := by
 have := uc9 n exPr 0
 rwa [xp_found.1, xp_words.2.2.2] at this
theorem upr (n : Nat) : fu n fm Tryz.prog 19 [val exPr, .v (.int .i64 0)] (.tup [lst ([⟨0, 0, 0⟩] : List PlaceD), .v (.int .i64 0)]) := by
 have := uda n exPr 0
 rwa [xp_found.2, xp_words.2.2.2] at this
theorem upn (n : Nat) : fu n fm Tryz.prog 24 [val exPr, .v (.int .i64 0)] (.tup [val (⟨2, 2⟩ : ce), .v (.int .i64 0)]) := by
 have := uk0 n exPr 0
 rwa [xp_guess.1, xp_guess.2] at this
theorem upm (n : Nat) : fu n fm Tryz.prog 14 [val exPr, .v (.int .i64 1)] (.tup [val (⟨0, 1⟩ : ce), .v (.int .i64 0)]) := by
 have := ukw n exPr 1
 rwa [xp_remain.1, xp_remain.2.1] at this
theorem upl (n : Nat) : fu n fm Tryz.prog 15 [val exPr] (.tup [val (⟨0, 1⟩ : ce), .v (.int .i64 0)]) := by
 have := uks n exPr
 rwa [uhe, vt] at this
theorem upj (n : Nat) : fu n fm Tryz.prog 25 [val exPr] (.tup [lst ([1, 0] : List Int), .v (.int .i64 0)]) := by
 have := ukn n exPr
 rwa [uhd, vt] at this
theorem alWhy (n : Nat) : fu n fm Tryz.prog 26 [val exPr] (.tup [lst ([0] : List Int), lst ([] : List Int), .v (.int .i64 0)]) := by
 have := ukq n exPr
 rwa [vt, qb, qb, xp_why.1, xp_why.2] at this
theorem upq (n : Nat) : fu n fm Tryz.prog 30 [.v (.bool false), .v (.int .i64 0), .v (.int .i64 4)] (.v (.bool true)) := by
 have := umu n false 0 4
 rwa [xp_bound.1, xp_bound.2.1] at this
theorem upp (n : Nat) : fu n fm Tryz.prog 32 [.v (.int .i64 0), lst ([0, 1] : List Int)] (.v (.bool true)) := by
 have := umt n 0 [0, 1]
 rwa [xp_chief.1, xp_chief.2.1] at this
set_option maxHeartbeats 4000000 in
theorem upi (n : Nat) : fu n fm Tryz.prog 5 [] (.v (.bool true)) := fun G nx hF hnx => by
 refine ix (G) (nx) Tryz.func5 rfl (.v) zN (fun hlt => zH) ?_
 simp only [Tryz.ntmps5, List.length_cons, List.length_nil, Nat.reduceAdd, Nat.reduceSub]
 refine cp fun hlt => ?_
 dsimp only at hlt
 refine yS fun _ K1 => ?_
 refine yR ?_
 refine yA rfl rfl ?_
 refine yN ?_
 dsimp only [St.put]
 refine K1 _ ?_
 refine yS fun _ K2 => ?_
 refine yR ?_
 try dsimp only [St.put]
 refine af rfl (bl rfl rfl rfl (ny) ?_)
 try dsimp only [St.put]
 refine af rfl ((eu rfl rfl rfl ((upk n)) zG (by dsimp only [St.put]; omega) ?_))
 refine yM rfl rfl ?_
 refine yX rfl rfl rfl rfl ?_
 refine yX rfl rfl rfl rfl ?_
 refine yA rfl rfl ?_
 refine yA rfl rfl ?_
 refine yN ?_
 dsimp only [St.put]
 refine K2 _ ?_
 refine yS fun _ K3 => ?_
 refine yR ?_
 try dsimp only [St.put]
 refine af rfl (bl rfl rfl rfl (ny) ?_)
 try dsimp only [St.put]
 refine af rfl ((eu rfl rfl rfl ((upo n)) zG (by dsimp only [St.put]; omega) ?_))
 refine yM rfl rfl ?_
 refine yX rfl rfl rfl rfl ?_
 refine yX rfl rfl rfl rfl ?_
 refine yA rfl rfl ?_
 refine yA rfl rfl ?_
 refine yN ?_
 dsimp only [St.put]
 refine K3 _ ?_
 refine yS fun _ K4 => ?_
 refine yR ?_
 try dsimp only [St.put]
 refine af rfl (bl rfl rfl rfl (ny) ?_)
 try dsimp only [St.put]
 refine af rfl ((eu rfl rfl rfl ((upr n)) zG (by dsimp only [St.put]; omega) ?_))
 refine yM rfl rfl ?_
 refine yX rfl rfl rfl rfl ?_
 refine yX rfl rfl rfl rfl ?_
 refine yA rfl rfl ?_
 refine yA rfl rfl ?_
 refine yN ?_
 dsimp only [St.put]
 refine K4 _ ?_
 refine yS fun _ K5 => ?_
 refine yR ?_
 try dsimp only [St.put]
 refine af rfl (bl rfl rfl rfl (ny) ?_)
 try dsimp only [St.put]
 refine af rfl ((eu rfl rfl rfl ((upn n)) zG (by dsimp only [St.put]; omega) ?_))
 refine yM rfl rfl ?_
 refine yX rfl rfl rfl rfl ?_
 refine yX rfl rfl rfl rfl ?_
 try dsimp only [St.put]
 refine af rfl (dt rfl ?_)
 try dsimp only [St.put]
 refine af rfl (da rfl rfl rfl zG rfl rfl (by rfl) ?_)
 refine yA rfl rfl ?_
 refine yN ?_
 dsimp only [St.put]
 refine K5 _ ?_
 refine gl (i := 7) rfl zG zC ?_
 dsimp only
 refine yS fun _ K6 => ?_
 refine yR ?_
 try dsimp only [St.put]
 refine af rfl (bl rfl rfl rfl (ny) ?_)
 try dsimp only [St.put]
 refine af rfl ((eu rfl rfl rfl ((upm n)) zG (by dsimp only [St.put]; omega) ?_))
 refine yM rfl rfl ?_
 refine yX rfl rfl rfl rfl ?_
 refine yX rfl rfl rfl rfl ?_
 try dsimp only [St.put]
 refine af rfl (dt rfl ?_)
 try dsimp only [St.put]
 refine af rfl (da rfl rfl rfl zG rfl rfl (by rfl) ?_)
 refine yA rfl rfl ?_
 refine yN ?_
 dsimp only [St.put]
 refine K6 _ ?_
 refine gl (i := 9) rfl zG zC ?_
 dsimp only
 refine yS fun _ K7 => ?_
 refine yR ?_
 try dsimp only [St.put]
 refine af rfl (bl rfl rfl rfl (ny) ?_)
 try dsimp only [St.put]
 refine af rfl ((eu rfl rfl rfl ((upl n)) zG (by dsimp only [St.put]; omega) ?_))
 refine yM rfl rfl ?_
 refine yX rfl rfl rfl rfl ?_
 refine yX rfl rfl rfl rfl ?_
 try dsimp only [St.put]
 refine af rfl (dt rfl ?_)
 try dsimp only [St.put]
 refine af rfl (da rfl rfl rfl zG rfl rfl (by rfl) ?_)
 refine yA rfl rfl ?_
 refine yN ?_
 dsimp only [St.put]
 refine K7 _ ?_
 refine gl (i := 11) rfl zG zC ?_
 dsimp only
 refine yS fun _ K8 => ?_
 refine yR ?_
 try dsimp only [St.put]
 refine af rfl (bl rfl rfl rfl (ny) ?_)
 try dsimp only [St.put]
 refine af rfl ((eu rfl rfl rfl ((upj n)) zG (by dsimp only [St.put]; omega) ?_))
 refine yM rfl rfl ?_
 refine yX rfl rfl rfl rfl ?_
 refine yX rfl rfl rfl rfl ?_
 refine yA rfl rfl ?_
 refine yA rfl rfl ?_
 refine yN ?_
 dsimp only [St.put]
 refine K8 _ ?_
 refine yS fun _ K9 => ?_
 refine yR ?_
 try dsimp only [St.put]
 refine af rfl (bl rfl rfl rfl (ny) ?_)
 try dsimp only [St.put]
 refine af rfl ((eu rfl rfl rfl ((alWhy n)) zG (by dsimp only [St.put]; omega) ?_))
 refine yM rfl rfl ?_
 refine yX rfl rfl rfl rfl ?_
 refine yX rfl rfl rfl rfl ?_
 refine yX rfl rfl rfl rfl ?_
 refine yA rfl rfl ?_
 refine yA rfl rfl ?_
 refine yA rfl rfl ?_
 refine yN ?_
 dsimp only [St.put]
 refine K9 _ ?_
 refine yS fun _ K10 => ?_
 refine dh 18 ?_
 refine zQ ?_
 refine du G zX ?_
 dsimp only
 refine yR ?_
 refine yM rfl rfl ?_
 refine aa rfl (eh (f3 rfl rfl rfl) (decide_eq_true (by omega))) ?_
 refine yM rfl rfl ?_
 refine yM rfl rfl ?_
 ((first | refine aa rfl ((eh (c := true) (f3 rfl rfl rfl) (decide_eq_true rfl))) ?_ | refine ah rfl rfl rfl rfl ((eh (c := true) (f3 rfl rfl rfl) (decide_eq_true rfl))) ?_ | refine eo rfl rfl rfl rfl ((eh (c := true) (f3 rfl rfl rfl) (decide_eq_true rfl))) ?_ | refine qy rfl rfl rfl ((eh (c := true) (f3 rfl rfl rfl) (decide_eq_true rfl))) ?_))
 refine aa rfl (cn rfl rfl (by constructor)) ?_
 refine yM rfl rfl ?_
 refine yM rfl rfl ?_
 refine aa rfl (eh (f3 rfl rfl rfl) (decide_eq_true (by omega))) ?_
 refine aa rfl (cn rfl rfl (by constructor)) ?_
 refine yM rfl rfl ?_
 refine yM rfl rfl ?_
 try dsimp only [St.put]
 refine af rfl (bl rfl rfl rfl (qq _ _ _) ?_)
 try dsimp only [St.put]
 refine af rfl (bl rfl rfl rfl (qq _ _ _) ?_)
 try dsimp only [St.put]
 refine af rfl (el rfl rfl rfl (by decide) (by decide) zR (by decide) ?_)
 try dsimp only [St.put]
 refine af rfl (bl rfl rfl rfl (ur [⟨0, 0, 0⟩, ⟨0, 0, 3⟩]) ?_)
 try dsimp only [St.put]
 refine af rfl (bl rfl rfl rfl (uel [⟨0, 0, 0⟩, ⟨0, 0, 3⟩]) ?_)
 refine aa rfl (cn rfl rfl (by constructor)) ?_
 refine yM rfl rfl ?_
 refine yM rfl rfl ?_
 refine aa rfl (eh (f3 rfl rfl rfl) (decide_eq_true (by omega))) ?_
 refine aa rfl (cn rfl rfl (by constructor)) ?_
 refine yM rfl rfl ?_
 refine yM rfl rfl ?_
 try dsimp only [St.put]
 refine af rfl (bl rfl rfl rfl (qq _ _ _) ?_)
 try dsimp only [St.put]
 refine af rfl (el rfl rfl rfl (by decide) (by decide) zR (by decide) ?_)
 try dsimp only [St.put]
 refine af rfl (bl rfl rfl rfl (ur [⟨0, 0, 0⟩]) ?_)
 try dsimp only [St.put]
 refine af rfl (bl rfl rfl rfl (uel [⟨0, 0, 0⟩]) ?_)
 refine aa rfl (cn rfl rfl (by constructor)) ?_
 refine yM rfl rfl ?_
 try dsimp only [St.put]
 refine af rfl ((eu rfl rfl rfl ((upq n)) zG (by dsimp only [St.put]; omega) ?_))
 refine aa rfl (cn rfl rfl (by constructor)) ?_
 refine yM rfl rfl ?_
 refine yM rfl rfl ?_
 refine aa rfl (eh (f3 rfl rfl rfl) (decide_eq_true (by omega))) ?_
 refine aa rfl (cn rfl rfl (by constructor)) ?_
 refine yM rfl rfl ?_
 refine yE rfl rfl rfl ?_
 refine aa rfl (ie rfl rfl) ?_
 ((first | refine aa rfl ((eh (c := true) (ky (x := (⟨2, 2⟩ : ce)) (y := (⟨2, 2⟩ : ce)) rfl rfl rfl) (decide_eq_true rfl))) ?_ | refine ah rfl rfl rfl rfl ((eh (c := true) (ky (x := (⟨2, 2⟩ : ce)) (y := (⟨2, 2⟩ : ce)) rfl rfl rfl) (decide_eq_true rfl))) ?_ | refine eo rfl rfl rfl rfl ((eh (c := true) (ky (x := (⟨2, 2⟩ : ce)) (y := (⟨2, 2⟩ : ce)) rfl rfl rfl) (decide_eq_true rfl))) ?_ | refine qy rfl rfl rfl ((eh (c := true) (ky (x := (⟨2, 2⟩ : ce)) (y := (⟨2, 2⟩ : ce)) rfl rfl rfl) (decide_eq_true rfl))) ?_))
 refine aa rfl (cn rfl rfl (by constructor)) ?_
 refine yM rfl rfl ?_
 refine yM rfl rfl ?_
 refine aa rfl (eh (f3 rfl rfl rfl) (decide_eq_true (by omega))) ?_
 refine aa rfl (cn rfl rfl (by constructor)) ?_
 refine yM rfl rfl ?_
 refine yE rfl rfl rfl ?_
 refine aa rfl (ie rfl rfl) ?_
 ((first | refine aa rfl ((eh (c := true) (ky (x := (⟨0, 1⟩ : ce)) (y := (⟨0, 1⟩ : ce)) rfl rfl rfl) (decide_eq_true rfl))) ?_ | refine ah rfl rfl rfl rfl ((eh (c := true) (ky (x := (⟨0, 1⟩ : ce)) (y := (⟨0, 1⟩ : ce)) rfl rfl rfl) (decide_eq_true rfl))) ?_ | refine eo rfl rfl rfl rfl ((eh (c := true) (ky (x := (⟨0, 1⟩ : ce)) (y := (⟨0, 1⟩ : ce)) rfl rfl rfl) (decide_eq_true rfl))) ?_ | refine qy rfl rfl rfl ((eh (c := true) (ky (x := (⟨0, 1⟩ : ce)) (y := (⟨0, 1⟩ : ce)) rfl rfl rfl) (decide_eq_true rfl))) ?_))
 refine aa rfl (cn rfl rfl (by constructor)) ?_
 refine yM rfl rfl ?_
 refine yM rfl rfl ?_
 refine aa rfl (eh (f3 rfl rfl rfl) (decide_eq_true (by omega))) ?_
 refine aa rfl (cn rfl rfl (by constructor)) ?_
 refine yM rfl rfl ?_
 refine yE rfl rfl rfl ?_
 refine aa rfl (ie rfl rfl) ?_
 ((first | refine aa rfl ((eh (c := true) (ky (x := (⟨0, 1⟩ : ce)) (y := (⟨0, 1⟩ : ce)) rfl rfl rfl) (decide_eq_true rfl))) ?_ | refine ah rfl rfl rfl rfl ((eh (c := true) (ky (x := (⟨0, 1⟩ : ce)) (y := (⟨0, 1⟩ : ce)) rfl rfl rfl) (decide_eq_true rfl))) ?_ | refine eo rfl rfl rfl rfl ((eh (c := true) (ky (x := (⟨0, 1⟩ : ce)) (y := (⟨0, 1⟩ : ce)) rfl rfl rfl) (decide_eq_true rfl))) ?_ | refine qy rfl rfl rfl ((eh (c := true) (ky (x := (⟨0, 1⟩ : ce)) (y := (⟨0, 1⟩ : ce)) rfl rfl rfl) (decide_eq_true rfl))) ?_))
 refine aa rfl (cn rfl rfl (by constructor)) ?_
 refine yM rfl rfl ?_
 refine yM rfl rfl ?_
 refine aa rfl (eh (f3 rfl rfl rfl) (decide_eq_true (by omega))) ?_
 refine aa rfl (cn rfl rfl (by constructor)) ?_
 refine yM rfl rfl ?_
 refine yM rfl rfl ?_
 try dsimp only [St.put]
 refine af rfl (el rfl rfl rfl (by decide) (by decide) zR (by decide) ?_)
 try dsimp only [St.put]
 refine af rfl (bl rfl rfl rfl (uem [1, 0] (by decide)) ?_)
 refine aa rfl (cn rfl rfl (by constructor)) ?_
 refine yM rfl rfl ?_
 refine yM rfl rfl ?_
 refine aa rfl (eh (f3 rfl rfl rfl) (decide_eq_true (by omega))) ?_
 refine aa rfl (cn rfl rfl (by constructor)) ?_
 refine yM rfl rfl ?_
 refine yM rfl rfl ?_
 try dsimp only [St.put]
 refine af rfl (el rfl rfl rfl (by decide) (by decide) zR (by decide) ?_)
 try dsimp only [St.put]
 refine af rfl (bl rfl rfl rfl (uem [0] (by decide)) ?_)
 refine aa rfl (cn rfl rfl (by constructor)) ?_
 refine yM rfl rfl ?_
 refine yM rfl rfl ?_
 refine aa rfl (bj rfl rfl (List.length_map _)) ?_
 ((first | refine aa rfl ((eh (c := true) (f3 rfl rfl rfl) (decide_eq_true rfl))) ?_ | refine ah rfl rfl rfl rfl ((eh (c := true) (f3 rfl rfl rfl) (decide_eq_true rfl))) ?_ | refine eo rfl rfl rfl rfl ((eh (c := true) (f3 rfl rfl rfl) (decide_eq_true rfl))) ?_ | refine qy rfl rfl rfl ((eh (c := true) (f3 rfl rfl rfl) (decide_eq_true rfl))) ?_))
 refine aa rfl (cn rfl rfl (by constructor)) ?_
 refine yM rfl rfl ?_
 try dsimp only [St.put]
 refine af rfl (el rfl rfl rfl (by decide) (by decide) zR (by decide) ?_)
 try dsimp only [St.put]
 refine af rfl ((eu rfl rfl rfl ((upp n)) zG (by dsimp only [St.put]; omega) ?_))
 refine aa rfl (cn rfl rfl (by constructor)) ?_
 refine yA rfl rfl ?_
 refine yN ?_
 dsimp only [St.put]
 refine K10 _ ?_
 refine bc ?_
 refine bx rfl (by constructor) zN zS ?_
 rfl
theorem umr (p : ak) : Pure Tryz.prog 6 [val p] (.v (.bool (rk p))) := by
 refine di Tryz.func6 rfl (fun m => .v) fun G nx => ?_
 simp only [Tryz.ntmps6, List.length_cons, List.length_nil, Nat.reduceAdd, Nat.reduceSub]
 refine cp fun hlt => ?_
 dsimp only at hlt
 refine yS fun _ K1 => ?_
 refine yR ?_
 try dsimp only [St.put]
 refine yB rfl rfl rfl ?_
 refine yA rfl rfl ?_
 refine yN ?_
 dsimp only [St.put]
 refine K1 _ ?_
 refine yS fun _ K2 => ?_
 refine yR ?_
 refine yE rfl rfl rfl ?_
 try dsimp only [St.put]
 refine af rfl (bl rfl rfl rfl (uj7 p) ?_)
 refine aa rfl (ei rfl rfl) ?_
 refine yM rfl rfl ?_
 refine er (fun hs => ?_) (fun hs => ?_)
 ·have h1 : oz p = false := by simpa using hs
  refine yE rfl rfl rfl ?_
  try dsimp only [St.put]
  refine af rfl (bl rfl rfl rfl (uj8 p) ?_)
  refine aa rfl (f3 rfl rfl rfl) ?_
  refine aa rfl (cn rfl rfl (by constructor)) ?_
  refine yA rfl rfl ?_
  refine yN ?_
  dsimp only [St.put]
  refine K2 _ ?_
  refine bc ?_
  refine bx rfl (by constructor) zN zS ?_
  exact vb (by simp [rk, h1])
 have h1 : oz p = true := by simpa using hs
 refine yK rfl ?_
 refine yK rfl ?_
 refine yK rfl ?_
 refine aa rfl (cv rfl rfl (by constructor)) ?_
 refine yA rfl rfl ?_
 refine yN ?_
 dsimp only [St.put]
 refine K2 _ ?_
 refine bc ?_
 refine bx rfl (by constructor) zN zS ?_
 exact vb (by simp [rk, h1])
end Go.Proofs.YtgffhbbcpgdjjaaGreatDoor
namespace Go.AB
open Go Go.RowKit
open Go.AB.Enc (cells)
open Go.PB (bg aj PlaceD bn bq bp ck az ak dc ce)
theorem uf0 {α : Type} (f g : α → Bool) : ∀ l : List α, (l.filter f).length + (l.filter g).length = (l.filter fun x => f x || g x).length + (l.filter fun x => f x && g x).length
 | [] => rfl
 | x :: l => by
  have := uf0 f g l
  cases h1 : f x <;> cases h2 : g x <;> simp [h1, h2] <;> omega
theorem und {p : ak} {last : Int} {x : az} (h : me p last x) : x.found.length + x.well.length = (et p.text x).length + (eb p.text x).length := by
 have h1 : x.found.length = ((dn p.text).filter fun q => decide (q ∈ x.found)).length := congrArg List.length (uar h.found)
 have h2 : x.well.length = ((dn p.text).filter fun q => decide (q ∈ x.well)).length := congrArg List.length (uar h.well)
 rw [h1, h2]
 exact uf0 _ _ _
end Go.AB
namespace Go.AB
open Go Go.RowKit
open Go.AB.Enc (cells)
open Go.PB (bg aj PlaceD bn bq bp ck az ak dc ce dr dv)
theorem ulp {P : Program} {o : Oper} {st : St} {xt yt : TypeId} {x y : Operand} {m n r : Int} (hr : m % n = r) (ho : o.op = .binOp .rem xt x y yt) (hx : evC st x = .v (.int .i64 m)) (hy : evC st y = .v (.int .i64 n)) (hm : 0 ≤ m ∧ m ≤ 9223372036854775807) (hn : 0 < n) : NStep P o st (.v (.int .i64 r)) := hr ▸ n_rem ho hx hy hm hn
theorem ukl {α : Type} {l : List α} {a : Int} (ha : 0 ≤ a) (h : l.length ≠ 0) : ∃ (i : Nat) (x : α), a % (l.length : Int) = (i : Int) ∧ l[i]? = some x := by
 have h2 := Int.emod_nonneg a (show (l.length : Int) ≠ 0 by omega)
 have h3 := Int.emod_lt_of_pos a (show (0 : Int) < (l.length : Int) by omega)
 have hlt : (a % (l.length : Int)).toNat < l.length := by omega
 exact ⟨_, l[(a % (l.length : Int)).toNat], by omega, List.getElem?_eq_getElem hlt⟩
section
variable {p : ak} {i : Nat} {x : az}
theorem sn (h : dg p = 0) (hx : p.pages[i]? = some x) : e8 p (i : Int) = 0 := by
 have := (List.getElem?_eq_some_iff.1 hx).1
 unfold e8
 rw [decide_eq_true h, cond_true, inB_true.2 (by omega)]
 rfl
theorem zj (hx : p.pages[i]? = some x) : mi p (i : Int) = x := by
 unfold mi
 rw [Int.toNat_natCast, hx]; rfl
end
end Go.AB
namespace Go.Proofs.YtgffhbbcpgdjjaaGreatDoor
set_option maxRecDepth 10000
open Go Go.RowKit Go.AB
open Go.AB.Enc (cells)
open Go.PB (bg aj PlaceD bn bq bp ck az ak dc ce dr dv)
section
variable {p : ak} {i : Nat} {x : az}
theorem umq (n : Nat) (h : dg p = 0) (hx : p.pages[i]? = some x) : fu n fm Tryz.prog 17 [val p, .v (.int .i64 (i : Int))] (.tup [.v (.int .i64 (fh p.text x : Int)), .v (.int .i64 0)]) := by
 have := uc4 n p (i : Int)
 rwa [sn h hx, show n7 p (i : Int) = (fh p.text x : Int) by unfold n7; rw [sn h hx, zj hx]; rfl] at this
theorem ums (n : Nat) (h : dg p = 0) (hx : p.pages[i]? = some x) : fu n fm Tryz.prog 18 [val p, .v (.int .i64 (i : Int))] (.tup [lst (et p.text x), .v (.int .i64 0)]) := by
 have := uc9 n p (i : Int)
 rwa [sn h hx, show pv p (i : Int) = et p.text x by unfold pv; rw [sn h hx, zj hx]; rfl] at this
theorem lBoth (n : Nat) (h : dg p = 0) (hx : p.pages[i]? = some x) : fu n fm Tryz.prog 19 [val p, .v (.int .i64 (i : Int))] (.tup [lst (eb p.text x), .v (.int .i64 0)]) := by
 have := uda n p (i : Int)
 rwa [sn h hx, show p9 p (i : Int) = eb p.text x by unfold p9; rw [sn h hx, zj hx]; rfl] at this
end
end Go.Proofs.YtgffhbbcpgdjjaaGreatDoor
namespace Go.AB
open Go Go.RowKit
open Go.AB.Enc (cells)
open Go.PB (bg aj PlaceD bn bq bp ck az ak dc ce)
/-- where what is taken out of a list stands -/
theorem sg {α : Type} {L : List α} {f : α → Bool} {k : Nat} {q : α} (h : L[k]? = some q) (hf : f q = true) : (L.filter f)[((L.take k).filter f).length]? = some q := by
 have hlt := (List.getElem?_eq_some_iff.1 h).1
 have e : L = L.take k ++ q :: L.drop (k + 1) := by
  have h2 := (List.getElem?_eq_some_iff.1 h).2
  rw [← h2, ← List.drop_eq_getElem_cons hlt, List.take_append_drop]
 have e2 : L.filter f = (L.take k).filter f ++ q :: (L.drop (k + 1)).filter f := by
  rw [← List.filter_cons_of_pos hf, ← List.filter_append, ← e]
 rw [e2, List.getElem?_append_right (Nat.le_refl _), Nat.sub_self]
 rfl
theorem ufa {α : Type} {L : List α} {f : α → Bool} {k : Nat} {q : α} (h : L[k]? = some q) : ((L.take (k + 1)).filter f).length = ((L.take k).filter f).length + bif f q then 1 else 0 := by
 rw [List.take_add_one, h, Option.toList_some, List.filter_append, List.length_append]
 cases hf : f q <;> simp [hf]
/-- what is found is on the page -/
theorem mq {p : ak} {last : Int} {x : az} (h : me p last x) {q : PlaceD} (hq : em p.text x q = false) : q ∉ x.found ∧ q ∉ x.well := by
 constructor
 ·intro hm
  rw [(lz h.found hm).2] at hq; cases hq
 ·intro hm
  rw [(lz h.well hm).2] at hq; cases hq
/-! ### Places by their numbers -/
end Go.AB
namespace Go.AB
open Go Go.RowKit
open Go.AB.Enc (cells)

/-! ### Only some names are kept -/
/-! ### What an iterator may turn -/
/-- The turn of the iterator's map. -/
theorem Ev.turnM {E E1 : Env} {w W W' : World} {G0 : Nat → Option GObj} {nx0 : Nat} (hs : SimG E w G0 nx0) (hev : Ev E w E1 W) (hfr : ∀ b, W.heap.size ≤ b → E1.L b = 0) {r : Nat} {o o' : Obj} (hM : ∃ n t, E.T n = some t ∧ blk t.2.2 = some r) (hun : ∀ n t, E1.T n = some t → blk t.2.2 ≠ some r) (hg : W.grownBy W' (some r))
  (ho : W.heap[r]? = some o) (hoc : o.isCells = false) (ho' : W'.heap[r]? = some o') (hoc' : o'.isCells = false) : Ev E w E1 W' ∧ ∀ b i, i < E1.L b → W'.cell? ⟨b, i, none⟩ = W.cell? ⟨b, i, none⟩ := by
 have hsz := hev.below.size
 obtain ⟨n0, t0, hn0, hb0⟩ := hM
 have hB := hs.tb n0 t0.1 t0.2.1 t0.2.2 r hn0 hb0
 have hoth : ∀ b, b < W.heap.size → b ≠ r → W'.heap[b]? = W.heap[b]? := fun b hb hne => hg.block b hb fun e => hne (Option.some.inj e)
 have hcell : ∀ b i, i < E1.L b → W'.cell? ⟨b, i, none⟩ = W.cell? ⟨b, i, none⟩ := fun b i hi => by
  by_cases e : b = r
  ·subst e; rw [zx ho hoc, zx ho' hoc']
  ·have hlt : b < W.heap.size := Nat.lt_of_not_le fun hle => by have := hfr b hle; omega
   exact World.cell?_of_block (w := W) (hoth b hlt e)
 refine ⟨⟨⟨hg.os.trans hev.below.os, hg.tape.trans hev.below.tape, hg.output.trans hev.below.output, Nat.le_trans hsz hg.size, fun k hk => (hoth k (by have := hs.base; omega) (by omega)).trans (hev.below.block k hk)⟩, hev.B, hev.L,
  fun b i hi => (hcell b i (Nat.lt_of_lt_of_le hi (hev.L b))).trans (hev.cell b i hi), hev.nx, fun n hn' ver' wv' val' h3 => ?_, hev.wv,
  ⟨hev.x.F, fun b hb => ?_, fun b ob hob hu => (hoth b (by have := (Array.getElem?_eq_some_iff.1 hob).1; omega) (fun e => hu n0 t0 hn0 (e ▸ hb0))).trans (hev.x.oth b ob hob hu), fun b ob hob => ?_, hev.x.nb, fun n t t' b hn' q1 q2 q3 q4 => ?_⟩⟩, hcell⟩
 ·obtain ⟨ver, wv, val, q1, q2, q3⟩ := hev.T n hn' _ _ _ h3
  refine ⟨ver, wv, val, q1, q2, fun e => ⟨(q3 e).1, fun e2 b hb => (hoth b ?_ fun e3 => ?_).trans ((q3 e).2 e2 b hb)⟩⟩
  ·have := (hs.tb n _ _ _ b q1 hb).2; omega
  ·subst e3
   exact hun n _ h3 (by rw [← (q3 e).1]; exact hb)
 ·obtain ⟨v, hv⟩ := hev.x.lc b hb
  exact ⟨v, (hcell b 0 (by omega)).trans hv⟩
 ·obtain ⟨o1, h1, h2⟩ := hev.x.ic b ob hob
  by_cases e : b = r
  ·subst e
   rw [ho] at h1; cases h1
   exact ⟨o', ho', by rw [← h2, hoc, hoc']⟩
  ·exact ⟨o1, (hoth b (Array.getElem?_eq_some_iff.1 h1).1 e).trans h1, h2⟩
 ·obtain ⟨o2, q5, q6⟩ := hev.x.mv n t t' b hn' q1 q2 q3 q4
  exact ⟨o2, (hoth b (Array.getElem?_eq_some_iff.1 q5).1 fun e => hun n t' q2 (e ▸ q4)).trans q5, q6⟩
/-- What is owned, between two rounds. -/
def OwnM (rm : Option Nat) (B0 : Nat) (X : Nat → Prop) (E : Env) (w : World) (G : Nat → Option GObj) (nx : Nat) (W : World) : Prop :=
 ∃ E1, Ev E w E1 W ∧ SimG E1 W G nx ∧ NCB nx w.heap.size E1 W ∧ (∀ r, rm = some r → (∃ o : Obj, W.heap[r]? = some o ∧ o.isCells = false) ∧ ∀ n t, E1.T n = some t → blk t.2.2 ≠ some r) ∧
  ∀ b, X b → B0 ≤ b ∧ b < W.heap.size ∧ ∀ n t, E1.T n = some t → blk t.2.2 ≠ some b
theorem OwnM.turn {rm : Option Nat} {B0 : Nat} {X : Nat → Prop} {E : Env} {w : World} {G0 : Nat → Option GObj} {nx0 : Nat} (hs : SimG E w G0 nx0) (hrm : ∀ r, rm = some r → ∃ n t, E.T n = some t ∧ blk t.2.2 = some r) {G : Nat → Option GObj} {nx : Nat} {W W' : World} {row : Option Nat} (h : OwnM rm B0 X E w G nx W) (hB : B0 ≤ W.heap.size) (hg : W.grownBy W' row)
  (hr : ∀ r, row = some r → (∃ o : Obj, W.heap[r]? = some o ∧ o.isCells = false) ∧ (w.heap.size ≤ r ∨ (rm = some r ∧ ∃ o' : Obj, W'.heap[r]? = some o' ∧ o'.isCells = false))) : OwnM rm B0 (fun b => X b ∨ (W.heap.size ≤ b ∧ b < W'.heap.size)) E w G nx W' := by
 obtain ⟨E1, hev, hs1, hn, hm, hX⟩ := h
 have hnx := hs1.nx
 have fin : (Ev E w E1 W' ∧ ∀ b i, i < E1.L b → W'.cell? ⟨b, i, none⟩ = W.cell? ⟨b, i, none⟩) → (∀ n t b, E1.T n = some t → blk t.2.2 = some b → row ≠ some b) → (∀ r, rm = some r → ∃ o : Obj, W'.heap[r]? = some o ∧ o.isCells = false) → OwnM rm B0 (fun b => X b ∨ (W.heap.size ≤ b ∧ b < W'.heap.size)) E w G nx W' := by
  rintro ⟨hev', hcell⟩ hne hm'
  have hblk : ∀ n t b, E1.T n = some t → blk t.2.2 = some b → W'.heap[b]? = W.heap[b]? := fun n t b ht hb => hg.block b (hs1.tb n t.1 t.2.1 t.2.2 b ht hb).2 fun e => hne n t b ht hb e.symm
  refine ⟨E1, hev', hs1.heap hcell hblk hg.size, fun n t b o hlt ht hb ho hf => hn n t b o hlt ht hb ((hblk n t b ht hb).symm.trans ho) hf, fun r e => ⟨hm' r e, (hm r e).2⟩, fun b hb => ?_⟩
  rcases hb with hb | ⟨h1, h2⟩
  ·exact ⟨(hX b hb).1, Nat.lt_of_lt_of_le (hX b hb).2.1 hg.size, (hX b hb).2.2⟩
  ·refine ⟨Nat.le_trans hB h1, h2, fun n t ht hb => ?_⟩
   have := (hs1.tb n t.1 t.2.1 t.2.2 b ht hb).2
   omega
 cases row with
 | none =>
  refine fin (hev.turn hs hs1.fresh hg fun r e => by cases e) (fun _ _ _ _ _ e => by cases e) fun r e => ?_
  obtain ⟨⟨o, h1, h2⟩, _⟩ := hm r e
  exact ⟨o, (hg.block r (Array.getElem?_eq_some_iff.1 h1).1 (by simp)).trans h1, h2⟩
 | some r =>
  obtain ⟨⟨o, h1, h2⟩, h3⟩ := hr r rfl
  by_cases hle : w.heap.size ≤ r
  ·refine fin (hev.turn hs hs1.fresh hg fun r' e => by cases e; exact ⟨hle, o, h1, h2⟩) (fun n t b ht hb e => ?_) fun r' e => ?_
   ·cases e
    have := hn n t r o (hnx ▸ hs1.lt n t ht) ht hb h1 h2
    omega
   ·obtain ⟨⟨o', h4, h5⟩, _⟩ := hm r' e
    obtain ⟨n0, t0, q1, q2⟩ := hrm r' e
    have := (hs.tb n0 t0.1 t0.2.1 t0.2.2 r' q1 q2).2
    exact ⟨o', (hg.block r' (Array.getElem?_eq_some_iff.1 h4).1 (by intro e2; cases e2; omega)).trans h4, h5⟩
  ·obtain ⟨e, o', h4, h5⟩ := h3.resolve_left hle
   refine fin (hev.turnM hs hs1.fresh (hrm r e) (hm r e).2 hg h1 h2 h4 h5) (fun n t b ht hb e2 => ?_) fun r' e2 => ?_
   ·cases e2
    exact (hm r e).2 n t ht hb
   ·rw [e] at e2; cases e2
    exact ⟨o', h4, h5⟩
theorem OwnM.base {rm : Option Nat} {B0 B1 : Nat} {X : Nat → Prop} {E : Env} {w : World} {G : Nat → Option GObj} {nx : Nat} {W : World} (h : OwnM rm B0 X E w G nx W) : OwnM rm B1 (fun _ => False) E w G nx W :=
 let ⟨E1, h1, h2, h3, h4, _⟩ := h; ⟨E1, h1, h2, h3, h4, fun _ hb => hb.elim⟩
theorem OwnM.fewer {rm : Option Nat} {B0 : Nat} {X Y : Nat → Prop} {E : Env} {w : World} {G : Nat → Option GObj} {nx : Nat} {W : World} (h : OwnM rm B0 X E w G nx W) (hY : ∀ b, Y b → X b) : OwnM rm B0 Y E w G nx W :=
 let ⟨E1, h1, h2, h3, h4, h5⟩ := h; ⟨E1, h1, h2, h3, h4, fun b hb => h5 b (hY b hb)⟩
theorem OwnM.put {rm : Option Nat} {B0 : Nat} {X : Nat → Prop} {E : Env} {w : World} {G0 : Nat → Option GObj} {nx0 : Nat} (hs : SimG E w G0 nx0) (hrm : ∀ r, rm = some r → ∃ n t, E.T n = some t ∧ blk t.2.2 = some r) {G : Nat → Option GObj} {nx : Nat} {W : World} {l : Nat} {o : Obj} (h : OwnM rm B0 X E w G nx W) (hB : B0 ≤ W.heap.size) (hl : w.heap.size ≤ l) (ho : W.heap[l]? = some o) (hf : o.isCells = false) (o' : Obj) : OwnM rm B0 X E w G nx (W.putObj l o') :=
 (h.turn hs hrm hB (grownBy_putObj' W l o') (fun r e => by cases e; exact ⟨⟨o, ho, hf⟩, .inl hl⟩)).fewer fun b hb => .inl hb
theorem NCB.mono {m m' B : Nat} {E : Env} {W : World} (h : NCB m B E W) (hm : m' ≤ m) : NCB m' B E W := fun n t b o hlt => h n t b o (by omega)

end Go.AB
namespace Go.AB
open Go Go.RowKit
open Go.AB.Enc (cells)
open Go.PB (bg aj PlaceD bn bq bp)
/-! ### Valid copies -/
/-! ### The words of a place, as they come about -/
end Go.AB
namespace Go.AB
open Go Go.RowKit
open Go.AB.Enc (cells)
open Go.PB (bg aj PlaceD bn bq bp)
section
variable {P : Program} {kt rt : TypeId} {G0 : Nat → Option GObj} {M base : Nat} {rs : List bn} {k : Nat} {r : bn}
end
end Go.AB
namespace Go.AB
open Go Go.RowKit
open Go.AB.Enc (cells)
open Go.PB (bg aj PlaceD bn bq bp)
section
variable {P : Program} {kt rt : TypeId} {G0 : Nat → Option GObj} {M base : Nat} {zs : List PW} {x : PW}
end
end Go.AB
namespace Go.Proofs.YtgffhbbcpgdjjaaGreatDoor
set_option maxRecDepth 10000
open Go.RowKit Go.AB
open Go.AB.Enc (cells)
open Go.PB (bg aj PlaceD bn bq bp)
end Go.Proofs.YtgffhbbcpgdjjaaGreatDoor
