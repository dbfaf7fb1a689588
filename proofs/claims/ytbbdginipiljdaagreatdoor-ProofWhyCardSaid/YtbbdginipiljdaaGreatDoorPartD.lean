/-
  What the walks through the program rest on: values, states, steps, calls (RcAdd, RiWithout, AbFact, RdOpen, AbFW, RfLefts, QnRef, QrRef).
-/
import Derived.Test.YtbbdginipiljdaaGreatDoorPartC
import Derived.Test.YtbbdginipiljdaaGreatDoorPartB
import Derived.Test.YtbbdginipiljdaaGreatDoorPartA
namespace Go.AB
open Go Go.RowKit
open Go.AB.Enc (cells)
open Go.PB (ba ai PlaceD bh bj bi bw aw ah cw br dg dl)
/-- who is found, as a map -/
def gz (f : PlaceD → Bool) : PlaceD → Option C := fun q => bif f q then some (.v (.bool true)) else none
theorem ub3 (f : PlaceD → Bool) (q : PlaceD) : (gz f q).getD (n5 (.bool false)) = .v (.bool (f q)) := by
 unfold gz
 cases f q <;> rfl
theorem ujk : gz (fun q => decide (q ∈ ([] : List PlaceD))) = fun _ => none := by funext q; simp [gz]
theorem ujl {F : List PlaceD} {k : Nat} {q : PlaceD} (h : F[k]? = some q) : j4 (gz fun x => decide (x ∈ F.take k)) q (.v (.bool true)) = gz fun x => decide (x ∈ F.take (k + 1)) := by
 funext x
 unfold j4 gz
 have hm : decide (x ∈ F.take (k + 1)) = (decide (x ∈ F.take k) || decide (x = q)) := by
  rw [List.take_add_one, h, Option.toList_some, Bool.eq_iff_iff]; simp
 dsimp only
 by_cases e : x = q
 ·rw [hm, decide_eq_true e, Bool.or_true, if_pos e]; rfl
 rw [hm, decide_eq_false e, Bool.or_false, if_neg e]
theorem ub2 {F W : List PlaceD} (hW : W.Nodup) {k : Nat} {q : PlaceD} (h : W[k]? = some q) (hq : q ∈ F) : pq (gz (gm F (W.take k))) q = gz (gm F (W.take (k + 1))) := by
 funext x
 unfold pq gz
 rw [ub4 hW h x]
 by_cases e : x = q
 ·rw [if_pos e, decide_eq_true e, decide_eq_true hq]; rfl
 rw [if_neg e, decide_eq_false e]; rfl
theorem ub1 {F W : List PlaceD} (hW : W.Nodup) {k : Nat} {q : PlaceD} (h : W[k]? = some q) (hq : q ∉ F) : j4 (gz (gm F (W.take k))) q (.v (.bool true)) = gz (gm F (W.take (k + 1))) := by
 funext x
 unfold j4 gz
 rw [ub4 hW h x]
 by_cases e : x = q
 ·rw [if_pos e, decide_eq_true e, decide_eq_false hq]; rfl
 rw [if_neg e, decide_eq_false e]; rfl
theorem onceM_ne {f : PlaceD → Bool} {q : PlaceD} : gz f q ≠ none ↔ f q = true := by
 unfold gz
 cases f q <;> simp
theorem xx {f : PlaceD → Bool} {q : PlaceD} {c : C} (h : gz f q = some c) : c = .v (.bool true) := by
 unfold gz at h
 cases hf : f q <;> rw [hf] at h
 ·cases h
 cases h; rfl
theorem mw (f : PlaceD → Bool) (n : Nat) : ∀ x c, gz f x = some c → C.low n c := fun x c h => by rw [xx h]; exact .v
def sv (ks done : List PlaceD) : Nat := (ks.filter fun y => decide (y ∉ done)).length
theorem uc0 {ks done : List PlaceD} {y : PlaceD} (hy : y ∈ ks) (hn : y ∉ done) : sv ks (done ++ [y]) < sv ks done := by
 unfold sv
 induction ks with
 | nil => cases hy
 | cons z ks ih =>
  have hle : (ks.filter fun y' => decide (y' ∉ done ++ [y])).length ≤ (ks.filter fun y' => decide (y' ∉ done)).length := by
   rw [← List.countP_eq_length_filter, ← List.countP_eq_length_filter]
   refine List.countP_mono_left fun a _ ha => ?_
   simp only [decide_eq_true_eq, List.mem_append, not_or] at ha ⊢
   exact ha.1
  by_cases e : z = y
  ·subst e
   rw [List.filter_cons_of_neg (by simp), List.filter_cons_of_pos (by simpa using hn)]
   simp only [List.length_cons]
   omega
  have hy' : y ∈ ks := by
   rcases List.mem_cons.1 hy with h | h
   ·exact absurd h.symm e
   exact h
  have := ih hy'
  by_cases hz : z ∈ done
  ·rw [List.filter_cons_of_neg (by simp [hz]), List.filter_cons_of_neg (by simp [hz])]
   exact this
  rw [List.filter_cons_of_pos (by simp [hz, e]), List.filter_cons_of_pos (by simp [hz])]
  simp only [List.length_cons]
  omega
theorem uer {p : ah} {x : aw} {q : PlaceD} {k : Nat} {last : Int} (hp : ly p last x) (hB : dj p.text x = []) (hq : x.well[k]? = some q) : q ∉ x.found := fun hf => by
 have : q ∈ dj p.text x := by
  show q ∈ (gw p.text).filter _
  rw [List.mem_filter, Bool.and_eq_true, decide_eq_true_eq, decide_eq_true_eq, allQ_mem]
  exact ⟨(ma hp.found hf).1, hf, List.mem_of_getElem? hq⟩
 rw [hB] at this; cases this
theorem uby {p : PlaceD → Prop} : Ord3 p lm := by
 have key : ∀ a b, lm a b < 0 ↔ ltW (c9 a) (c9 b) := fun a b => m7 (by rfl)
 refine ⟨fun x _ => ?_, fun x y z _ _ _ h k => ?_, fun x y z _ _ _ h k => ?_⟩
 ·rw [key]; exact oy _
 ·rw [key] at h k ⊢; exact qn h k
 rw [key] at h k ⊢
 intro hxz
 by_cases h1 : ltW (c9 y) (c9 x)
 ·exact k (qn h1 hxz)
 rw [ye (a := c9 x) (b := c9 y) rfl h h1] at hxz; exact k hxz
def PBd9 (q : PlaceD) : Prop := (0 ≤ q.ch ∧ q.ch ≤ 100000) ∧ (0 ≤ q.ln ∧ q.ln ≤ 100000) ∧ 0 ≤ q.wd ∧ q.wd ≤ 100000
theorem PBd9.plain {a : PlaceD} (h : PBd9 a) : Plain (cells a) := fun c hc => by
 obtain ⟨h1, h2, h3⟩ := h
 have hc' : c ∈ [C.v (.int .i64 a.ch), C.v (.int .i64 a.ln), C.v (.int .i64 a.wd)] := hc
 simp only [List.mem_cons, List.not_mem_nil, or_false] at hc'
 rcases hc' with rfl | rfl | rfl
 ·exact ⟨_, rfl, kg (by omega)⟩
 ·exact ⟨_, rfl, kg (by omega)⟩
 exact ⟨_, rfl, kg (by omega)⟩
theorem ubi {t : ai} (ht : dz t = true) {q : PlaceD} (h : fw t q = true) : PBd9 q := by
 obtain ⟨l, hw, hw1, hw2⟩ := placeB_true.1 h
 have := t8 ht hw
 exact ⟨by omega, by omega, by omega, by omega⟩
theorem ubz {p : ah} {x : aw} {last : Int} (hp : ly p last x) {q : PlaceD} (h : gm x.found x.well q = true) : fw p.text q = true := by
 unfold gm at h
 by_cases h1 : q ∈ x.found
 ·exact (ma hp.found h1).1
 by_cases h2 : q ∈ x.well
 ·exact (ma hp.well h2).1
 simp [h1, h2] at h
theorem ub0 {p : ah} {x : aw} {last : Int} (hp : ly p last x) (ht : dz p.text = true) {done : List PlaceD} (h : ∀ q ∈ done, gm x.found x.well q = true) : ∀ q ∈ done, PBd9 q := fun q hq => ubi ht (ubz hp (h q hq))
theorem umy {p : ah} {x : aw} {last : Int} (_ : ly p last x) (ht : dz p.text = true) {q : PlaceD} (h : q ∈ dj p.text x) : PBd9 q := by
 have : q ∈ (gw p.text).filter _ := h
 exact ubi ht (allQ_mem.1 (List.mem_filter.1 this).1)
theorem ut {p : ah} {x : aw} {last : Int} (hp : ly p last x) {done : List PlaceD} (hn : done.Nodup) (h : ∀ q ∈ done, gm x.found x.well q = true) : done.length ≤ (gw p.text).length :=
 ub8 hn fun q hq => allQ_mem.2 (ubz hp (h q hq))
section
variable {P : Program} {o : Oper} {st : St} {K : St → Prop}
/-- A slice that is nil is nil. -/
theorem ul6 {t t' e : TypeId} [Elt P t e] {x : Operand} {rows : List (List C)} (ho : o.op = .binOp .eql t x (.const (.slice none 0 0)) t') (hx : evC st x = .list rows .nil) (h : K (st.put o.dst (.v (.bool true)))) : EStep P o st K :=
 j6 fun E w a hsim => by
  have hr := hx ▸ hsim.ev x
  obtain ⟨ad, cap, _, _, hv, h1, _, _, _, _, _, h7, z1, _⟩ := R.list_inv hr
  obtain ⟨rfl, rfl⟩ := z1 rfl
  have q1 := Elt.spec (P := P) (t := t) (e := e)
  refine ⟨.bool true, w, E, st.G, st.nx, .v (.bool true), ?_, Ev.refl E w, .v rfl, hsim.g, h⟩
  have hq := run_equal_slice_nil (P := P) w t e none rows.length 0 q1
  have he2 : a.eval (.const (.slice none 0 0)) = .slice none 0 0 := rfl
  simp [execOp, ho, hv, he2, eqGuard, binOp, hq]
/-- .. one in which something is, is not. -/
theorem uee {t t' e : TypeId} [Elt P t e] {x : Operand} {rows : List (List C)} {tok : Tok} (hne : rows ≠ []) (ho : o.op = .binOp .eql t x (.const (.slice none 0 0)) t') (hx : evC st x = .list rows tok) (h : K (st.put o.dst (.v (.bool false)))) : EStep P o st K :=
 uef ho hx fun b hb => by rw [hb hne]; exact h
end
end Go.AB
namespace Go.Proofs.YtbbdginipiljdaaGreatDoor
set_option maxRecDepth 10000
open Go Go.RowKit Go.AB
open Go.AB.Enc (cells)
open Go.PB (ba ai PlaceD bh bj bi bw aw ah cw br dg dl)
instance : Ty Tryz.prog (srt_Place_ren.t 24) true (Enc.n PlaceD) := inferInstanceAs (Ty Tryz.prog 61 true 3)
theorem umk : Pure Tryz.prog 104 [.list [] .nil] (.list [] .nil) := by
 refine c6 Tryz.func104 rfl (fun m => (.list (fun r hr => by cases hr) (fun k hk => by cases hk))) fun G nx => ?_
 simp only [Tryz.ntmps104, List.length_cons, List.length_nil, Nat.reduceAdd, Nat.reduceSub]
 refine cc fun hlt => ?_
 dsimp only at hlt
 refine yS fun _ K1 => ?_
 refine yR ?_
 refine yA rfl rfl ?_
 refine yN ?_
 dsimp only [St.put]
 refine K1 _ ?_
 refine yS fun _ K2 => ?_
 refine yS fun _ K3 => ?_
 refine yR ?_
 refine yM rfl rfl ?_
 refine af rfl (ul6 rfl rfl ?_)
 refine yN ?_
 dsimp only [St.put]
 refine K3 _ ?_
 refine av rfl (fun hc => ?_) (fun hc => ?_)
 ·try replace hc := of_decide_eq_true hc
  refine yS fun _ K4 => ?_
  refine yR ?_
  refine yA rfl rfl ?_
  refine yN ?_
  dsimp only [St.put]
  refine K4 _ ?_
  refine ax ?_
  refine bf rfl (by constructor) zN zS ?_
  rfl
 try replace hc := of_decide_eq_false hc
 refine ay ?_
 refine K2 _ ?_
 refine yS fun _ K5 => ?_
 refine yR ?_
 try dsimp only [St.put]
 refine af rfl (vx rfl ?_)
 refine yM rfl rfl ?_
 try dsimp only [St.put]
 refine af rfl (y9 rfl rfl (.inl rfl) rfl (show 1 ≤ 3 by decide) (fun r hr => by cases hr) (by simp) (by simp) ?_)
 refine yA rfl rfl ?_
 refine yN ?_
 dsimp only [St.put]
 refine K5 _ ?_
 refine ax ?_
 exact absurd hc (by decide)
theorem umj (l : List PlaceD) (hne : l ≠ []) (hl : l.length ≤ 1000) (G : Nat → Option GObj) (nx : Nat) : PC Tryz.prog 104 [lst l] G nx fun r G' nx' => r = .own nx 0 l.length ∧ G' = ak G nx (.arr 0 0 61 3 l.length (dq l)) ∧ nx' = nx + 1 := by
 refine ij (ak G nx (.arr 0 0 61 3 l.length (dq l))) (nx + 1) Tryz.func104 rfl (.own (Nat.lt_succ_self _)) zN (fun hlt => (by (repeat' (refine la ?_ (by (try dsimp only); omega) ?_)); all_goals (first | exact ld zS | (repeat' (first | exact trivial | refine ⟨?_, ?_⟩ | exact .v | exact .any | refine .elem ?_ | exact ca _ _ | exact fq _ _ | exact el _ _ | exact fy _ (by (try dsimp only); omega) | exact .box (by (try dsimp only); omega) | exact fk | exact dn | exact fe _ | refine ga ?_ ?_ | exact .arr (by (try dsimp only); omega) | exact .own (by (try dsimp only); omega) | exact .map (by (try dsimp only); omega) | exact fe _ | refine co ?_ ?_ | exact ca _ _))))) ?_
 simp only [Tryz.ntmps104, List.length_cons, List.length_nil, Nat.reduceAdd, Nat.reduceSub]
 refine cc fun hlt => ?_
 dsimp only at hlt
 refine yS fun _ K1 => ?_
 refine yR ?_
 refine yA rfl rfl ?_
 refine yN ?_
 dsimp only [St.put]
 refine K1 _ ?_
 refine yS fun _ K2 => ?_
 refine yS fun _ K3 => ?_
 refine yR ?_
 refine yM rfl rfl ?_
 refine af rfl (uee (fun e => hne (by simpa using e)) rfl rfl ?_)
 refine yN ?_
 dsimp only [St.put]
 refine K3 _ ?_
 refine av rfl (fun hc => ?_) (fun hc => ?_)
 ·try replace hc := of_decide_eq_true hc
  refine yS fun _ K4 => ?_
  refine yR ?_
  refine yA rfl rfl ?_
  refine yN ?_
  dsimp only [St.put]
  refine K4 _ ?_
  refine ax ?_
  exact absurd hc (by decide)
 try replace hc := of_decide_eq_false hc
 refine ay ?_
 refine K2 _ ?_
 refine yS fun _ K5 => ?_
 refine yR ?_
 try dsimp only [St.put]
 refine af rfl (vx rfl ?_)
 refine yM rfl rfl ?_
 try dsimp only [St.put]
 refine af rfl (ueh l rfl rfl (.inl rfl) rfl rfl hne (by decide) (by omega) (by omega) ?_)
 refine yA rfl rfl ?_
 refine yN ?_
 dsimp only [St.put]
 refine K5 _ ?_
 refine ax ?_
 refine bf rfl (by constructor) zN zS ?_
 rfl
set_option maxHeartbeats 4000000 in
theorem un2 (p : ah) (last : Int) (x : aw) (ws : List Int) (al bo : List (List PlaceD)) (nB a1 a2 a3 V : Nat) (ht : dz p.text = true) (hp : ly p last x) (hw : ws.length ≤ 100) (ha : al.length ≤ 100) (hb : bo.length ≤ 100) (G : Nat → Option GObj) (nx : Nat) (hN : nB < nx) (h1 : a1 < nx) (h2 : a2 < nx) (h3 : a3 < nx) (d1 : nB ≠ a1) (d2 : nB ≠ a2) (d3 : nB ≠ a3) (d4 : a1 ≠ a2) (d5 : a1 ≠ a3) (d6 : a2 ≠ a3)
  (hGB : G nB = some (((.box (V) [lst p.text, lst p.firsts, lst p.seconds, lst p.pages, .list ((ws).map cells) (.tip a1), .list ((al).map cells) (.tip a2), .list ((bo).map cells) (.tip a3)])))) (hG1 : G a1 = some (.tip ws.length 3 1)) (hG2 : G a2 = some (.tip al.length 56 1)) (hG3 : G a3 = some (.tip bo.length 56 1)) :
  PC Tryz.prog 85 [.box nB 0 0, val x, lst (l4 p.text p.text.length)] G nx fun r' G' nx' => r' = .tup [] ∧ G' = ak (ak (ak (ak G nB (((.box ((V + 1 + 1 + 1)) [lst p.text, lst p.firsts, lst p.seconds, lst p.pages, .list (((ws ++ [(dm p.text x : Int)])).map cells) (.tip a1), .list (((al ++ [cr p.text x])).map cells) (.tip a2), .list (((bo ++ [dj p.text x])).map cells) (.tip a3)])))) a1 (.tip (ws ++ [(dm p.text x : Int)]).length 3 1)) a2 (.tip (al ++ [cr p.text x]).length 56 1)) a3 (.tip (bo ++ [dj p.text x]).length 56 1) ∧ nx' = nx := by
 refine ij (ak (ak (ak (ak G nB (((.box ((V + 1 + 1 + 1)) [lst p.text, lst p.firsts, lst p.seconds, lst p.pages, .list (((ws ++ [(dm p.text x : Int)])).map cells) (.tip a1), .list (((al ++ [cr p.text x])).map cells) (.tip a2), .list (((bo ++ [dj p.text x])).map cells) (.tip a3)])))) a1 (.tip (ws ++ [(dm p.text x : Int)]).length 3 1)) a2 (.tip (al ++ [cr p.text x]).length 56 1)) a3 (.tip (bo ++ [dj p.text x]).length 56 1)) (nx) Tryz.func85 rfl (.tup dn) zN (fun hlt => zH) ?_
 simp only [Tryz.ntmps85, List.length_cons, List.length_nil, Nat.reduceAdd, Nat.reduceSub]
 refine cc fun hlt => ?_
 dsimp only at hlt
 obtain ⟨hl1, hl2, hl3⟩ := lj ht
 have hal := nd ht
 have hnd1 := xc (vv hp.found)
 have hnd2 := xc (vv hp.well)
 have hfl := o6 hp.found
 have hwl := o6 hp.well
 have hbl := uev p.text x
 have hgl := te p.text x
 have hwx := rm p.text x
 have hwt : ∀ (f : PlaceD → Bool) (l : List PlaceD), (l.filter f).length ≤ l.length := fun f l => List.length_filter_le f l
 have hstl := uam p.text p.text.length
 have hmw : x.well.take x.well.length = x.well := List.take_length
 refine yS fun _ K1 => ?_
 refine yR ?_
 try dsimp only [St.put]
 refine yB rfl rfl rfl ?_
 refine yN ?_
 dsimp only [St.put]
 refine K1 _ ?_
 refine yS fun _ K2 => ?_
 refine yR ?_
 refine yA rfl rfl ?_
 refine yN ?_
 dsimp only [St.put]
 rw [show (0 : Int) = ((jr p.text x (gw (p.text.take 0)) : Nat) : Int) from rfl]
 refine K2 _ ?_
 refine yS fun _ K3 => ?_
 refine yS fun _ K4 => ?_
 refine yR ?_
 refine yM rfl rfl ?_
 refine aa rfl (ce rfl rfl) ?_
 refine aa rfl (bk rfl rfl) ?_
 refine aa rfl (bk rfl rfl) ?_
 refine aa rfl (bk rfl rfl) ?_
 try dsimp only [St.put]
 refine ck rfl (fu rfl rfl zG trivial (by first | rfl | assumption)) ?_
 refine aa rfl (bp rfl rfl (List.length_map _)) ?_
 refine yM rfl rfl ?_
 refine yN ?_
 dsimp only [St.put]
 refine K4 _ ?_
 refine bg ?_
 refine ct 27 ?_
 refine zQ ?_
 refine dc (X := Nat) (fun k => k ≤ p.text.length) (fun k => p.text.length - k) (fun k => [(6, .v (.int .i64 ((jr p.text x (gw (p.text.take k)) : Nat) : Int))), (7, .any), (8, .any), (9, .any), (10, .any), (26, .v (.int .i64 (k : Int)))]) (fun k G' => G') 0 rfl ?_ ?_ (fun _ _ h => h) ?_ ?_ ?_
 ·exact Nat.zero_le _
 ·exact zF
 ·rintro k hI
  exact zL
 ·exact fun _ _ _ _ h => .inl h
 rintro k hI
 dsimp only at hI ⊢
 refine yS fun _ K5 => ?_
 refine yR ?_
 refine aa rfl (cp rfl rfl rfl) ?_
 refine yN ?_
 dsimp only [St.put]
 refine K5 _ ?_
 refine yS fun _ K6 => ?_
 refine av rfl (fun hc => ?_) (fun hc => ?_)
 ·replace hc := of_decide_eq_true hc
  obtain ⟨c, hcx⟩ : ∃ c, p.text[k]? = some c := dp (by omega)
  have hll := (hl3 c (gd hcx)).2.1
  have hwo := (hl3 c (gd hcx)).2.2
  have hst := uan (t := p.text) (k := p.text.length) (i := k) (by omega)
  have hsb := ud ht k (by omega)
  refine ay ?_
  refine K6 _ ?_
  refine yS fun _ K7 => ?_
  refine bg ?_
  refine yS fun _ K8 => ?_
  refine yR ?_
  refine yM rfl rfl ?_
  refine aa rfl (bx rfl rfl rfl rfl (bv (by assumption)) (Enc.len _)) ?_
  refine yE rfl rfl rfl ?_
  try dsimp only [St.put]
  refine af rfl (dx rfl ?_)
  refine yA rfl rfl ?_
  try dsimp only [St.put]
  refine af rfl (dh rfl rfl rfl zG rfl rfl (by rfl) ?_)
  refine yN ?_
  dsimp only [St.put]
  refine K8 _ ?_
  refine gh (i := 8) rfl zG zC ?_
  dsimp only
  refine yS fun _ K9 => ?_
  refine yR ?_
  refine yF rfl rfl rfl rfl ?_
  refine yL rfl rfl rfl ?_
  refine aa rfl (bp rfl rfl (List.length_map _)) ?_
  refine yM rfl rfl ?_
  refine yN ?_
  dsimp only [St.put]
  rw [unl p.text k c.lines]
  refine K9 _ ?_
  refine bg ?_
  refine ct 35 ?_
  refine zQ ?_
  refine dc (X := Nat) (fun n => n ≤ c.lines.length) (fun n => c.lines.length - n) (fun n => [(6, .v (.int .i64 ((jr p.text x (iw p.text k c.lines n) : Nat) : Int))), (9, .any), (10, .any), (34, .v (.int .i64 (n : Int)))]) (fun n G' => G') 0 rfl ?_ ?_ (fun _ _ h => h) ?_ ?_ ?_
  ·exact Nat.zero_le _
  ·exact zF
  ·rintro n hI
   exact zL
  ·exact fun _ _ _ _ h => .inl h
  rintro n hJ
  dsimp only at hJ ⊢
  refine yS fun _ K10 => ?_
  refine yR ?_
  refine aa rfl (cp rfl rfl rfl) ?_
  refine yN ?_
  dsimp only [St.put]
  refine K10 _ ?_
  refine yS fun _ K11 => ?_
  refine av rfl (fun hc => ?_) (fun hc => ?_)
  ·replace hc := of_decide_eq_true hc
   obtain ⟨l, hn⟩ : ∃ l, c.lines[n]? = some l := dp (by omega)
   have hlb := hwo l (gd hn)
   have hqb : jr p.text x (iw p.text k c.lines n) ≤ 600 := by
    have hle := unk ht hcx hn 0
    rw [← unj] at hle
    have := hwt (ib p.text x) (iw p.text k c.lines n)
    unfold jr
    omega
   refine ay ?_
   refine K11 _ ?_
   refine yS fun _ K12 => ?_
   refine bg ?_
   refine yS fun _ K13 => ?_
   refine yR ?_
   refine yM rfl rfl ?_
   refine aa rfl (bx rfl rfl rfl rfl (bv (by assumption)) (Enc.len _)) ?_
   refine yL rfl rfl rfl ?_
   refine yA rfl rfl ?_
   refine yA rfl rfl ?_
   refine yN ?_
   dsimp only [St.put]
   refine K13 _ ?_
   refine yS fun _ K14 => ?_
   refine g7 [(0, none), (1, none), (2, none), (3, none), (4, none), (5, none), (6, none), (7, none), (8, none), (9, none), (10, none), (11, none)] (fun i => [11].contains i) (fun i => [10, 11].contains i) (fun i => [0, 2, 4, 5, 6, 8, 9].contains i) [] (by kernel_rfl) (by kernel_rfl) ?_
   refine ae rfl rfl rfl rfl (cx rfl rfl rfl) ?_
   try dsimp only [St.put]
   refine bd rfl rfl rfl rfl (cm rfl rfl) ?_
   refine ae rfl rfl rfl rfl (cx rfl rfl rfl) ?_
   try dsimp only [St.put]
   refine bd rfl rfl rfl rfl (cm rfl rfl) ?_
   refine xM rfl rfl rfl rfl rfl ?_
   refine xM rfl rfl rfl rfl rfl ?_
   try dsimp only [St.put]
   refine ae rfl rfl rfl rfl (bx rfl rfl rfl rfl (bv (by assumption)) (Enc.len _)) ?_
   try dsimp only [St.put]
   refine bd rfl rfl rfl rfl (cm rfl rfl) ?_
   refine xM rfl rfl rfl rfl rfl ?_
   refine ae rfl rfl rfl rfl (bz rfl rfl rfl (by omega)) ?_
   refine jo ?_
   try dsimp only [St.put]
   refine ka rfl rfl rfl (b9 rfl rfl rfl (by decide) (by decide) zR (by decide) ⟨zD, ?_⟩)
   try dsimp only [St.put]
   refine g8 rfl rfl rfl rfl (bc rfl rfl rfl (mu _ _ [_]) ?_)
   refine ji ?_
   dsimp only [St.put]
   refine K14 _ ?_
   refine av rfl (fun hc => ?_) (fun hc => ?_)
   ·have hpg : inB ((f9 p.text k : Int) + (n : Int)) x.fr x.to = true := by rw [gn] at hc; exact hc
    refine yR ?_
    refine yM rfl rfl ?_
    refine yM rfl rfl ?_
    refine aa rfl (bp rfl rfl (List.length_map _)) ?_
    refine aa rfl (bz rfl rfl rfl (by omega)) ?_
    refine yA rfl rfl ?_
    refine yN ?_
    dsimp only [St.put]
    refine K12 _ ?_
    refine yR ?_
    refine aa rfl (bz rfl rfl rfl (by omega)) ?_
    refine yM rfl rfl ?_
    refine yN ?_
    dsimp only [St.put]
    have e := z7 p.text x (k := k) hn
    first
    | (rw [hpg, cond_true] at e
       rw [show ((jr p.text x (iw p.text k c.lines n) : Nat) : Int) + (l.length : Int) = ((jr p.text x (iw p.text k c.lines (n + 1)) : Nat) : Int) by rw [e]; rfl]
       exact ⟨n + 1, by omega, by omega, ⟨⟨rfl, rfl⟩, zF, zB, zN, zX⟩⟩)
    | (rw [hpn, cond_false] at e
       rw [show jr p.text x (iw p.text k c.lines n) = jr p.text x (iw p.text k c.lines (n + 1)) from e.symm]
       exact ⟨n + 1, by omega, by omega, ⟨⟨rfl, rfl⟩, zF, zB, zN, zX⟩⟩)
   have hpn : inB ((f9 p.text k : Int) + (n : Int)) x.fr x.to = false := by rw [gn] at hc; exact hc
   refine ay ?_
   refine K12 _ ?_
   refine yR ?_
   refine aa rfl (bz rfl rfl rfl (by omega)) ?_
   refine yM rfl rfl ?_
   refine yN ?_
   dsimp only [St.put]
   have e := z7 p.text x (k := k) hn
   first
   | (rw [hpg, cond_true] at e
      rw [show ((jr p.text x (iw p.text k c.lines n) : Nat) : Int) + (l.length : Int) = ((jr p.text x (iw p.text k c.lines (n + 1)) : Nat) : Int) by rw [e]; rfl]
      exact ⟨n + 1, by omega, by omega, ⟨⟨rfl, rfl⟩, zF, zB, zN, zX⟩⟩)
   | (rw [hpn, cond_false] at e
      rw [show jr p.text x (iw p.text k c.lines n) = jr p.text x (iw p.text k c.lines (n + 1)) from e.symm]
      exact ⟨n + 1, by omega, by omega, ⟨⟨rfl, rfl⟩, zF, zB, zN, zX⟩⟩)
  replace hc := of_decide_eq_false hc
  refine c7 ?_
  refine K7 _ ?_
  refine yR ?_
  refine aa rfl (bz rfl rfl rfl (by omega)) ?_
  refine yM rfl rfl ?_
  refine yN ?_
  dsimp only [St.put]
  rw [unm (n := n) hcx (by omega)]
  exact ⟨k + 1, by omega, by omega, ⟨⟨rfl, rfl⟩, zF, zB, zN, zX⟩⟩
 replace hc := of_decide_eq_false hc
 obtain rfl : k = p.text.length := by omega
 rw [List.take_length, ufz]
 refine c7 ?_
 refine K3 _ ?_
 refine yS fun _ K15 => ?_
 refine yR ?_
 try dsimp only [St.put]
 refine af rfl (y6 (α := PlaceD) rfl ?_)
 refine yA rfl rfl ?_
 refine yN ?_
 dsimp only [St.put]
 refine K15 _ ?_
 refine yS fun _ K16 => ?_
 refine yS fun _ K17 => ?_
 refine yR ?_
 refine yF rfl rfl rfl rfl ?_
 refine yL rfl rfl rfl ?_
 refine aa rfl (bp rfl rfl (List.length_map _)) ?_
 refine yM rfl rfl ?_
 refine yN ?_
 dsimp only [St.put]
 refine K17 _ ?_
 refine bg ?_
 refine ct 62 ?_
 refine zQ ?_
 refine dd ((ak G nx (iv Tryz.prog 61 (0) ((fun _ => none))))) zX ?_
 dsimp only
 refine dc (X := Nat) (fun k => k ≤ x.found.length) (fun k => x.found.length - k) (fun k => [(13, .any), (61, .v (.int .i64 (k : Int)))]) (fun k G' => (ak G nx (iv Tryz.prog 61 (k) ((gz fun q => decide (q ∈ x.found.take k)))))) 0 rfl ?_ ?_ ?_ ?_ ?_ ?_
 ·exact Nat.zero_le _
 ·exact zF
 ·rw [show (gz fun q => decide (q ∈ x.found.take 0)) = fun _ => none from ujk]
  exact zX
 ·rintro k hI
  exact (by (try dsimp only); repeat' (first | exact trivial | refine ⟨?_, ?_⟩ | exact .v | exact .any | refine .elem ?_ | exact ca _ _ | exact fq _ _ | exact el _ _ | exact fy _ (by (try dsimp only); omega) | exact .box (by (try dsimp only); omega) | exact fk | exact dn | exact iu (mw _ _) | refine ga ?_ ?_ | exact .arr (by (try dsimp only); omega) | exact .own (by (try dsimp only); omega) | exact .map (by (try dsimp only); omega) | exact fe _ | refine co ?_ ?_ | exact ca _ _))
 ·rintro k hI
  exact (by (repeat' (refine la ?_ (by (try dsimp only); omega) ?_)); all_goals (first | exact ld zS | (repeat' (first | exact trivial | refine ⟨?_, ?_⟩ | exact .v | exact .any | refine .elem ?_ | exact ca _ _ | exact fq _ _ | exact el _ _ | exact fy _ (by (try dsimp only); omega) | exact .box (by (try dsimp only); omega) | exact fk | exact dn | exact iu (mw _ _) | refine ga ?_ ?_ | exact .arr (by (try dsimp only); omega) | exact .own (by (try dsimp only); omega) | exact .map (by (try dsimp only); omega) | exact fe _ | refine co ?_ ?_ | exact ca _ _))))
 rintro k hK
 dsimp only at hK ⊢
 refine yS fun _ K18 => ?_
 refine yR ?_
 refine aa rfl (cp rfl rfl rfl) ?_
 refine yN ?_
 dsimp only [St.put]
 refine K18 _ ?_
 refine yS fun _ K19 => ?_
 refine av rfl (fun hc => ?_) (fun hc => ?_)
 ·replace hc := of_decide_eq_true hc
  obtain ⟨q, hq⟩ : ∃ q, x.found[k]? = some q := dp (by omega)
  refine ay ?_
  refine K19 _ ?_
  refine yS fun _ K20 => ?_
  refine bg ?_
  refine yS fun _ K21 => ?_
  refine yR ?_
  refine aa rfl (bx rfl rfl rfl rfl (bv (by assumption)) (Enc.len _)) ?_
  refine yE rfl rfl rfl ?_
  try dsimp only [St.put]
  refine af rfl (dx rfl ?_)
  try dsimp only [St.put]
  refine af rfl (dh rfl rfl rfl zG rfl rfl (by rfl) ?_)
  refine yN ?_
  dsimp only [St.put]
  refine K21 _ ?_
  refine gh (i := 13) rfl zG zC ?_
  dsimp only
  refine yR ?_
  refine yM rfl rfl ?_
  refine yE rfl rfl rfl ?_
  try dsimp only [St.put]
  refine af rfl (tg (q) rfl rfl rfl zG rfl (ujl hq) ?_)
  refine yN ?_
  dsimp only [St.put]
  refine K20 _ ?_
  refine yR ?_
  refine aa rfl (bz rfl rfl rfl (by omega)) ?_
  refine yM rfl rfl ?_
  refine yN ?_
  dsimp only [St.put]
  exact ⟨k + 1, by omega, by omega, ⟨⟨rfl, rfl⟩, zF, zB, zN, zX⟩⟩
 replace hc := of_decide_eq_false hc
 obtain rfl : k = x.found.length := by omega
 rw [List.take_length, show (fun q => decide (q ∈ x.found)) = gm x.found (x.well.take 0) from funext fun q => (ujm x.found q).symm]
 refine c7 ?_
 refine K16 _ ?_
 refine yS fun _ K22 => ?_
 by_cases hB : dj p.text x = []
 ·refine yR ?_
  refine yA rfl rfl ?_
  refine yN ?_
  dsimp only [St.put]
  refine K22 _ ?_
  refine yS fun _ K23 => ?_
  refine yS fun _ K24 => ?_
  refine yR ?_
  refine yF rfl rfl rfl rfl ?_
  refine yL rfl rfl rfl ?_
  refine aa rfl (bp rfl rfl (List.length_map _)) ?_
  refine yM rfl rfl ?_
  refine yN ?_
  dsimp only [St.put]
  refine K24 _ ?_
  refine bg ?_
  refine ct 72 ?_
  refine zQ ?_
  refine dd ((ak G nx (iv Tryz.prog 61 (x.found.length) ((gz (gm x.found (x.well.take 0))))))) zX ?_
  dsimp only
  refine dc (X := Nat) (fun k => k ≤ x.well.length) (fun k => x.well.length - k) (fun k => [(16, .any), (71, .v (.int .i64 (k : Int)))]) (fun k G' => (ak G nx (iv Tryz.prog 61 ((x.found.length + k)) ((gz (gm x.found (x.well.take k))))))) 0 rfl ?_ ?_ ?_ ?_ ?_ ?_
  ·exact Nat.zero_le _
  ·exact zF
  ·exact zX
  ·rintro k hI
   exact (by (try dsimp only); repeat' (first | exact trivial | refine ⟨?_, ?_⟩ | exact .v | exact .any | refine .elem ?_ | exact ca _ _ | exact fq _ _ | exact el _ _ | exact fy _ (by (try dsimp only); omega) | exact .box (by (try dsimp only); omega) | exact fk | exact dn | exact iu (mw _ _) | refine ga ?_ ?_ | exact .arr (by (try dsimp only); omega) | exact .own (by (try dsimp only); omega) | exact .map (by (try dsimp only); omega) | exact fe _ | refine co ?_ ?_ | exact ca _ _))
  ·rintro k hI
   exact (by (repeat' (refine la ?_ (by (try dsimp only); omega) ?_)); all_goals (first | exact ld zS | (repeat' (first | exact trivial | refine ⟨?_, ?_⟩ | exact .v | exact .any | refine .elem ?_ | exact ca _ _ | exact fq _ _ | exact el _ _ | exact fy _ (by (try dsimp only); omega) | exact .box (by (try dsimp only); omega) | exact fk | exact dn | exact iu (mw _ _) | refine ga ?_ ?_ | exact .arr (by (try dsimp only); omega) | exact .own (by (try dsimp only); omega) | exact .map (by (try dsimp only); omega) | exact fe _ | refine co ?_ ?_ | exact ca _ _))))
  rintro k hK
  dsimp only at hK ⊢
  refine yS fun _ K25 => ?_
  refine yR ?_
  refine aa rfl (cp rfl rfl rfl) ?_
  refine yN ?_
  dsimp only [St.put]
  refine K25 _ ?_
  refine yS fun _ K26 => ?_
  refine av rfl (fun hc => ?_) (fun hc => ?_)
  ·replace hc := of_decide_eq_true hc
   obtain ⟨q, hq⟩ : ∃ q, x.well[k]? = some q := dp (by omega)
   have hbt := ueu x.found x.well k
   refine ay ?_
   refine K26 _ ?_
   refine yS fun _ K27 => ?_
   refine bg ?_
   refine yS fun _ K28 => ?_
   refine yR ?_
   refine aa rfl (bx rfl rfl rfl rfl (bv (by assumption)) (Enc.len _)) ?_
   refine yE rfl rfl rfl ?_
   try dsimp only [St.put]
   refine af rfl (dx rfl ?_)
   try dsimp only [St.put]
   refine af rfl (dh rfl rfl rfl zG rfl rfl (by rfl) ?_)
   refine yN ?_
   dsimp only [St.put]
   refine K28 _ ?_
   refine gh (i := 16) rfl zG zC ?_
   dsimp only
   refine yS fun _ K29 => ?_
   refine yR ?_
   refine yM rfl rfl ?_
   refine yE rfl rfl rfl ?_
   try dsimp only [St.put]
   refine ck rfl (uk q rfl rfl zG trivial rfl (ub3 _ _)) ?_
   refine yN ?_
   dsimp only [St.put]
   refine K29 _ ?_
   refine av rfl (fun hc => ?_) (fun hc => ?_)
   ·have hin : q ∈ x.found := by
     rw [uu hnd2 hq] at hc
     exact of_decide_eq_true hc
    refine yS fun _ K30 => ?_
    refine yR ?_
    refine yM rfl rfl ?_
    refine yE rfl rfl rfl ?_
    try dsimp only [St.put]
    refine af rfl (b9 rfl rfl rfl (by decide) (by decide) zR (by decide) ?_)
    try dsimp only [St.put]
    refine af rfl (y9 rfl rfl (.inr rfl) rfl (show 1 ≤ 3 by decide) (fun r hr => by rw [List.mem_singleton] at hr; subst hr; rfl) (by simp) (by simp) ?_)
    refine yA rfl rfl ?_
    refine yN ?_
    dsimp only [St.put]
    refine K30 _ ?_
    refine yR ?_
    refine yM rfl rfl ?_
    refine yE rfl rfl rfl ?_
    try dsimp only [St.put]
    refine af rfl (ueg q rfl rfl zG rfl (ub2 hnd2 hq hin) ?_)
    refine yN ?_
    dsimp only [St.put]
    refine K27 _ ?_
    refine yR ?_
    refine aa rfl (bz rfl rfl rfl (by omega)) ?_
    refine yM rfl rfl ?_
    refine yN ?_
    dsimp only [St.put]
    first
    | exact absurd (show q ∈ x.found from hin) (uer hp hB hq)
    | exact ⟨k + 1, by omega, by omega, ⟨⟨rfl, rfl⟩, zF, zB, zN, zX⟩⟩
   have hout : q ∉ x.found := by
    rw [uu hnd2 hq] at hc
    exact of_decide_eq_false hc
   refine yR ?_
   refine yM rfl rfl ?_
   refine yE rfl rfl rfl ?_
   try dsimp only [St.put]
   refine af rfl (tg (q) rfl rfl rfl zG rfl (ub1 hnd2 hq hout) ?_)
   refine yN ?_
   dsimp only [St.put]
   refine K27 _ ?_
   refine yR ?_
   refine aa rfl (bz rfl rfl rfl (by omega)) ?_
   refine yM rfl rfl ?_
   refine yN ?_
   dsimp only [St.put]
   first
   | exact absurd (show q ∈ x.found from hin) (uer hp hB hq)
   | exact ⟨k + 1, by omega, by omega, ⟨⟨rfl, rfl⟩, zF, zB, zN, zX⟩⟩
  replace hc := of_decide_eq_false hc
  obtain rfl : k = x.well.length := by omega
  refine c7 ?_
  refine K23 _ ?_
  refine yS fun _ K31 => ?_
  refine yR ?_
  refine yM rfl rfl ?_
  try dsimp only [St.put]
  refine af rfl (bc rfl rfl rfl (umk) ?_)
  refine yA rfl rfl ?_
  refine yN ?_
  dsimp only [St.put]
  refine K31 _ ?_
  refine ue7 17 61 3 rfl (by decide) ?_
  dsimp only
  refine yS fun _ K32 => ?_
  refine yS fun _ K33 => ?_
  refine yR ?_
  refine yM rfl rfl ?_
  try dsimp only [St.put]
  refine af rfl (uec rfl rfl zG fun r β cl ks hnd hks0 hinj => ?_)
  refine yN ?_
  dsimp only [St.put]
  refine K33 _ ?_
  rw [hmw] at hks0
  rw [hmw]
  refine bg ?_
  refine ct 91 ?_
  refine zQ ?_
  refine dd (ak (ak (ak (ak G nx (n4 Tryz.prog 61 (x.found.length + x.well.length) (gz (gm x.found x.well)) β cl)) (nx + 1) (.arr 0 0 61 3 0 [])) (nx + 1 + 1) (.raw 0 (.mapIter (some r) cl (jf β ([] : List PlaceD)) cl))) (nx + 1 + 1 + 1) (.fact (.map (some r)) (.map nx))) zX ?_
  dsimp only
  refine dc (X := List PlaceD × Nat × Nat × Nat) (fun y => (∀ z ∈ y.1, z ∈ ks) ∧ y.1.Nodup) (fun y => sv ks y.1) (fun y => [(17, .own (nx + 1) y.2.2.1 (([] : List PlaceD) ++ y.1).length), (18, .any)]) (fun y G' => (ak (ak (ak (ak G nx (n4 Tryz.prog 61 ((x.found.length + x.well.length)) (gz ((gm x.found x.well))) β cl)) ((nx + 1)) (.arr y.2.2.1 y.2.2.2 61 3 ((([] : List PlaceD) ++ y.1)).length (dq ((([] : List PlaceD) ++ y.1))))) ((nx + 1 + 1)) (.raw y.2.1 (.mapIter (some r) cl (jf β y.1) cl))) ((nx + 1 + 1 + 1)) (.fact (.map (some r)) (.map nx)))) ([], 0, 0, 0) rfl ?_ ?_ ?_ ?_ ?_ ?_
  ·exact ⟨fun z hz => by simp at hz, List.nodup_nil⟩
  ·exact zF
  ·exact zX
  ·rintro ⟨done, wi, vl, wv⟩ hI
   exact (by (try dsimp only); repeat' (first | exact trivial | refine ⟨?_, ?_⟩ | exact .v | exact .any | refine .elem ?_ | exact ca _ _ | exact fq _ _ | exact el _ _ | exact fy _ (by (try dsimp only); omega) | exact .box (by (try dsimp only); omega) | exact fk | exact dn | exact vr (mw _ _) | exact fe _ | refine ga ?_ ?_ | exact .arr (by (try dsimp only); omega) | exact .own (by (try dsimp only); omega) | exact .map (by (try dsimp only); omega) | exact fe _ | refine co ?_ ?_ | exact ca _ _))
  ·rintro ⟨done, wi, vl, wv⟩ hI
   exact (by (repeat' (refine la ?_ (by (try dsimp only); omega) ?_)); all_goals (first | exact ld zS | (repeat' (first | exact trivial | refine ⟨?_, ?_⟩ | exact .v | exact .any | refine .elem ?_ | exact ca _ _ | exact fq _ _ | exact el _ _ | exact fy _ (by (try dsimp only); omega) | exact .box (by (try dsimp only); omega) | exact fk | exact dn | exact vr (mw _ _) | exact fe _ | refine ga ?_ ?_ | exact .arr (by (try dsimp only); omega) | exact .own (by (try dsimp only); omega) | exact .map (by (try dsimp only); omega) | exact fe _ | refine co ?_ ?_ | exact ca _ _))))
  rintro ⟨done, wi, vl, wv⟩ hI8
  dsimp only at hI8 ⊢
  refine yS fun _ K34 => ?_
  refine yR ?_
  try dsimp only [St.put]
  refine af rfl (ued (done := done) rfl rfl zG zG zG (hks0) (hinj) (hI8.1) (fun hend => ?_) (fun y c hym hyk hyd => ?_))
  ·have hdl := ut hp hI8.2 (fun q hq => onceM_ne.1 ((hks0 q).2 (hI8.1 q hq)))
   have hdk : ∀ q, q ∈ done ↔ gm x.found x.well q = true := fun q => ⟨fun hq => onceM_ne.1 ((hks0 q).2 (hI8.1 q hq)), fun hq => hend q ((hks0 q).1 (onceM_ne.2 hq))⟩
   have hpb := ub0 hp ht (fun q hq => (hdk q).1 hq)
   refine yX rfl rfl rfl rfl ?_
   refine yN ?_
   dsimp only [St.put]
   refine K34 _ ?_
   refine yS fun _ K35 => ?_
   refine av rfl (fun h => by cases h) (fun _ => ?_)
   refine c7 ?_
   refine K32 _ ?_
   refine yS fun _ K36 => ?_
   have hpb2 : ∀ y ∈ ([] : List PlaceD) ++ done, PBd9 y := fun y hy => hpb y (by simpa using hy)
   refine yR ?_
   refine yM rfl rfl ?_
   try dsimp only [St.put]
   refine af rfl (ueb uaq PBd9 lm rfl rfl rfl rfl zG rfl rfl rfl (fun y hy => hy.plain) hpb2 (by first | (rw [List.length_append]; omega) | (simp only [List.nil_append]; omega)) (fun a b _ _ => xu a b _ _) uby (fun ys hperm hsort => ?_))
   refine yN ?_
   dsimp only [St.put]
   have hlen := hperm.length_eq
   rw [← hB] at hperm hlen
   obtain rfl := ufc hp hI8.2 hdk hperm hsort
   refine K36 _ ?_
   refine ra 14 (lst ([] : List PlaceD)) rfl Wk.tok ?_
   refine v8 17 (cr p.text x) rfl zG rfl rfl (by rw [hlen, hB]) ?_
   dsimp only
   refine ue6 [(0, none), (1, none), (2, none), (3, none), (4, none), (5, none), (6, none), (7, none), (10, none), (11, none), (12, none), (13, none), (14, none), (17, none), (18, none), (19, none), (20, none), (21, none)] (fun i => [23, 26, 29, 32].contains i) (fun i => [0, 1, 2, 3, 4, 5, 7, 10, 11, 12, 14, 17, 18, 19, 21].contains i) 15 (rl [8, 2, 5, 2, 5, 11]) [nB] (by kernel_rfl) (by kernel_rfl) ?_
   refine xM rfl rfl rfl rfl rfl ?_
   refine xM rfl rfl rfl rfl rfl ?_
   refine xM rfl rfl rfl rfl rfl ?_
   refine xM rfl rfl rfl rfl rfl ?_
   refine ae rfl rfl rfl rfl (ce rfl rfl) ?_
   refine ae rfl rfl rfl rfl (bk rfl rfl) ?_
   try dsimp only [St.put]
   refine bd rfl rfl rfl rfl (fu rfl rfl zG (by simp) (by first | rfl | assumption)) ?_
   refine xM rfl rfl rfl rfl rfl ?_
   refine xM rfl rfl rfl rfl rfl ?_
   refine ae rfl rfl rfl rfl (ce rfl rfl) ?_
   refine ae rfl rfl rfl rfl (bk rfl rfl) ?_
   try dsimp only [St.put]
   refine bd rfl rfl rfl rfl (fu rfl rfl zG (by simp) (by first | rfl | assumption)) ?_
   refine xM rfl rfl rfl rfl rfl ?_
   refine xM rfl rfl rfl rfl rfl ?_
   refine ae rfl rfl rfl rfl (ce rfl rfl) ?_
   refine ae rfl rfl rfl rfl (bk rfl rfl) ?_
   try dsimp only [St.put]
   refine bd rfl rfl rfl rfl (fu rfl rfl zG (by simp) (by first | rfl | assumption)) ?_
   refine xM rfl rfl rfl rfl rfl ?_
   refine az ⟨zD, ?_⟩
   refine ar [8, 15, 22] (by kernel_rfl) (by simp) ?_
   refine am ?_ ?_
   ·try dsimp only [St.put]
    refine cb rfl rfl rfl (b9 rfl rfl rfl (by decide) (by decide) zR (by decide) ⟨zD, ?_⟩)
    refine ar [9, 15, 22] (by kernel_rfl) (by simp) ?_
    refine am ?_ ?_
    ·try dsimp only [St.put]
     refine cb rfl rfl rfl (cg ([(dm p.text x : Int)]) rfl rfl zG zE rfl rfl zA ⟨zD, ?_⟩ zA)
     refine ar [15, 22] (by kernel_rfl) (by simp) ?_
     refine am ?_ ?_
     ·try dsimp only [St.put]
      refine cb rfl rfl rfl (b9 rfl rfl rfl (by decide) (by decide) zR (by decide) ⟨zD, ?_⟩)
      refine ar [16, 22] (by kernel_rfl) (by simp) ?_
      refine am ?_ ?_
      ·try dsimp only [St.put]
       refine cb rfl rfl rfl (cg ([cr p.text x]) rfl rfl zG zE rfl rfl zA ⟨zD, ?_⟩ zA)
       refine ar [22] (by kernel_rfl) (by simp) ?_
       refine am ?_ ?_
       ·try dsimp only [St.put]
        refine cb rfl rfl rfl (b9 rfl rfl rfl (by decide) (by decide) zR (by decide) ⟨zD, ?_⟩)
        refine ar [23] (by kernel_rfl) (by simp) ?_
        refine am ?_ ?_
        ·try dsimp only [St.put]
         refine bq rfl rfl rfl rfl (cg ([([] : List PlaceD)]) rfl rfl zG zE rfl rfl zA ?_ zA)
         refine cn [(24, none), (25, none)] 7 (rl [26, 7]) (by kernel_rfl) ?_
         refine ae rfl rfl rfl rfl (ce rfl rfl) ?_
         refine ae rfl rfl rfl rfl (bk rfl rfl) ?_
         refine az ⟨zD, ?_⟩
         refine ar [26] (by kernel_rfl) (by simp) ?_
         refine am ?_ ?_
         ·try dsimp only [St.put]
          refine bq rfl rfl rfl rfl (cd rfl rfl rfl zG (by constructor) rfl zO ?_)
          refine cn [(27, none), (28, none)] 4 (rl [29, 4]) (by kernel_rfl) ?_
          refine ae rfl rfl rfl rfl (ce rfl rfl) ?_
          refine ae rfl rfl rfl rfl (bk rfl rfl) ?_
          refine az ⟨zD, ?_⟩
          refine ar [29] (by kernel_rfl) (by simp) ?_
          refine am ?_ ?_
          ·try dsimp only [St.put]
           refine bq rfl rfl rfl rfl (cd rfl rfl rfl zG (by constructor) rfl zO ?_)
           refine cn [(30, none), (31, none)] 1 (rl [32, 1]) (by kernel_rfl) ?_
           refine ae rfl rfl rfl rfl (ce rfl rfl) ?_
           refine ae rfl rfl rfl rfl (bk rfl rfl) ?_
           refine az ⟨zD, ?_⟩
           refine ar [32] (by kernel_rfl) (by simp) ?_
           refine am ?_ ?_
           ·try dsimp only [St.put]
            refine bq rfl rfl rfl rfl (cd rfl rfl rfl zG (by constructor) rfl zO ?_)
            dsimp only [St.put]
            refine gq (by kernel_rfl) ?_
            rw [hB]
            refine gp rfl (.inl rfl) zN (gk zG zG zG zG fun n o q1 q2 q3 q4 h => ?_)
            have hn := hlt n o h
            (try dsimp only)
            repeat (first | exact h | rw [eu (by omega)] | rw [e9 (by omega)])
           exact aq
          exact aq
         exact aq
        exact aq
       exact aq
      refine am ?_ ?_
      ·try dsimp only [St.put]
       refine cb rfl rfl rfl (b9 rfl rfl rfl (by decide) (by decide) zR (by decide) ⟨zD, ?_⟩)
       refine ar [16] (by kernel_rfl) (by simp) ?_
       refine am ?_ ?_
       ·try dsimp only [St.put]
        refine cb rfl rfl rfl (cg ([cr p.text x]) rfl rfl zG zE rfl rfl zA ⟨zD, ?_⟩ zA)
        refine ar [23] (by kernel_rfl) (by simp) ?_
        refine am ?_ ?_
        ·try dsimp only [St.put]
         refine bq rfl rfl rfl rfl (cg ([([] : List PlaceD)]) rfl rfl zG zE rfl rfl zA ?_ zA)
         refine cn [(24, none), (25, none)] 7 (rl [26, 7]) (by kernel_rfl) ?_
         refine ae rfl rfl rfl rfl (ce rfl rfl) ?_
         refine ae rfl rfl rfl rfl (bk rfl rfl) ?_
         refine az ⟨zD, ?_⟩
         refine ar [26] (by kernel_rfl) (by simp) ?_
         refine am ?_ ?_
         ·try dsimp only [St.put]
          refine bq rfl rfl rfl rfl (cd rfl rfl rfl zG (by constructor) rfl zO ?_)
          refine cn [(27, none), (28, none)] 4 (rl [29, 4]) (by kernel_rfl) ?_
          refine ae rfl rfl rfl rfl (ce rfl rfl) ?_
          refine ae rfl rfl rfl rfl (bk rfl rfl) ?_
          refine az ⟨zD, ?_⟩
          refine ar [29] (by kernel_rfl) (by simp) ?_
          refine am ?_ ?_
          ·try dsimp only [St.put]
           refine bq rfl rfl rfl rfl (cd rfl rfl rfl zG (by constructor) rfl zO ?_)
           refine cn [(30, none), (31, none)] 1 (rl [32, 1]) (by kernel_rfl) ?_
           refine ae rfl rfl rfl rfl (ce rfl rfl) ?_
           refine ae rfl rfl rfl rfl (bk rfl rfl) ?_
           refine az ⟨zD, ?_⟩
           refine ar [32] (by kernel_rfl) (by simp) ?_
           refine am ?_ ?_
           ·try dsimp only [St.put]
            refine bq rfl rfl rfl rfl (cd rfl rfl rfl zG (by constructor) rfl zO ?_)
            dsimp only [St.put]
            refine gq (by kernel_rfl) ?_
            rw [hB]
            refine gp rfl (.inl rfl) zN (gk zG zG zG zG fun n o q1 q2 q3 q4 h => ?_)
            have hn := hlt n o h
            (try dsimp only)
            repeat (first | exact h | rw [eu (by omega)] | rw [e9 (by omega)])
           exact aq
          exact aq
         exact aq
        exact aq
       exact aq
      exact aq
     refine am ?_ ?_
     ·try dsimp only [St.put]
      refine cb rfl rfl rfl (b9 rfl rfl rfl (by decide) (by decide) zR (by decide) ⟨zD, ?_⟩)
      refine ar [15] (by kernel_rfl) (by simp) ?_
      refine am ?_ ?_
      ·try dsimp only [St.put]
       refine cb rfl rfl rfl (b9 rfl rfl rfl (by decide) (by decide) zR (by decide) ⟨zD, ?_⟩)
       refine ar [16] (by kernel_rfl) (by simp) ?_
       refine am ?_ ?_
       ·try dsimp only [St.put]
        refine cb rfl rfl rfl (cg ([cr p.text x]) rfl rfl zG zE rfl rfl zA ⟨zD, ?_⟩ zA)
        refine ar [23] (by kernel_rfl) (by simp) ?_
        refine am ?_ ?_
        ·try dsimp only [St.put]
         refine bq rfl rfl rfl rfl (cg ([([] : List PlaceD)]) rfl rfl zG zE rfl rfl zA ?_ zA)
         refine cn [(24, none), (25, none)] 7 (rl [26, 7]) (by kernel_rfl) ?_
         refine ae rfl rfl rfl rfl (ce rfl rfl) ?_
         refine ae rfl rfl rfl rfl (bk rfl rfl) ?_
         refine az ⟨zD, ?_⟩
         refine ar [26] (by kernel_rfl) (by simp) ?_
         refine am ?_ ?_
         ·try dsimp only [St.put]
          refine bq rfl rfl rfl rfl (cd rfl rfl rfl zG (by constructor) rfl zO ?_)
          refine cn [(27, none), (28, none)] 4 (rl [29, 4]) (by kernel_rfl) ?_
          refine ae rfl rfl rfl rfl (ce rfl rfl) ?_
          refine ae rfl rfl rfl rfl (bk rfl rfl) ?_
          refine az ⟨zD, ?_⟩
          refine ar [29] (by kernel_rfl) (by simp) ?_
          refine am ?_ ?_
          ·try dsimp only [St.put]
           refine bq rfl rfl rfl rfl (cd rfl rfl rfl zG (by constructor) rfl zO ?_)
           refine cn [(30, none), (31, none)] 1 (rl [32, 1]) (by kernel_rfl) ?_
           refine ae rfl rfl rfl rfl (ce rfl rfl) ?_
           refine ae rfl rfl rfl rfl (bk rfl rfl) ?_
           refine az ⟨zD, ?_⟩
           refine ar [32] (by kernel_rfl) (by simp) ?_
           refine am ?_ ?_
           ·try dsimp only [St.put]
            refine bq rfl rfl rfl rfl (cd rfl rfl rfl zG (by constructor) rfl zO ?_)
            dsimp only [St.put]
            refine gq (by kernel_rfl) ?_
            rw [hB]
            refine gp rfl (.inl rfl) zN (gk zG zG zG zG fun n o q1 q2 q3 q4 h => ?_)
            have hn := hlt n o h
            (try dsimp only)
            repeat (first | exact h | rw [eu (by omega)] | rw [e9 (by omega)])
           exact aq
          exact aq
         exact aq
        exact aq
       exact aq
      exact aq
     exact aq
    refine am ?_ ?_
    ·try dsimp only [St.put]
     refine cb rfl rfl rfl (b9 rfl rfl rfl (by decide) (by decide) zR (by decide) ⟨zD, ?_⟩)
     refine ar [9, 22] (by kernel_rfl) (by simp) ?_
     refine am ?_ ?_
     ·try dsimp only [St.put]
      refine cb rfl rfl rfl (cg ([(dm p.text x : Int)]) rfl rfl zG zE rfl rfl zA ⟨zD, ?_⟩ zA)
      refine ar [16, 22] (by kernel_rfl) (by simp) ?_
      refine am ?_ ?_
      ·try dsimp only [St.put]
       refine cb rfl rfl rfl (cg ([cr p.text x]) rfl rfl zG zE rfl rfl zA ⟨zD, ?_⟩ zA)
       refine ar [22] (by kernel_rfl) (by simp) ?_
       refine am ?_ ?_
       ·try dsimp only [St.put]
        refine cb rfl rfl rfl (b9 rfl rfl rfl (by decide) (by decide) zR (by decide) ⟨zD, ?_⟩)
        refine ar [23] (by kernel_rfl) (by simp) ?_
        refine am ?_ ?_
        ·try dsimp only [St.put]
         refine bq rfl rfl rfl rfl (cg ([([] : List PlaceD)]) rfl rfl zG zE rfl rfl zA ?_ zA)
         refine cn [(24, none), (25, none)] 7 (rl [26, 7]) (by kernel_rfl) ?_
         refine ae rfl rfl rfl rfl (ce rfl rfl) ?_
         refine ae rfl rfl rfl rfl (bk rfl rfl) ?_
         refine az ⟨zD, ?_⟩
         refine ar [26] (by kernel_rfl) (by simp) ?_
         refine am ?_ ?_
         ·try dsimp only [St.put]
          refine bq rfl rfl rfl rfl (cd rfl rfl rfl zG (by constructor) rfl zO ?_)
          refine cn [(27, none), (28, none)] 4 (rl [29, 4]) (by kernel_rfl) ?_
          refine ae rfl rfl rfl rfl (ce rfl rfl) ?_
          refine ae rfl rfl rfl rfl (bk rfl rfl) ?_
          refine az ⟨zD, ?_⟩
          refine ar [29] (by kernel_rfl) (by simp) ?_
          refine am ?_ ?_
          ·try dsimp only [St.put]
           refine bq rfl rfl rfl rfl (cd rfl rfl rfl zG (by constructor) rfl zO ?_)
           refine cn [(30, none), (31, none)] 1 (rl [32, 1]) (by kernel_rfl) ?_
           refine ae rfl rfl rfl rfl (ce rfl rfl) ?_
           refine ae rfl rfl rfl rfl (bk rfl rfl) ?_
           refine az ⟨zD, ?_⟩
           refine ar [32] (by kernel_rfl) (by simp) ?_
           refine am ?_ ?_
           ·try dsimp only [St.put]
            refine bq rfl rfl rfl rfl (cd rfl rfl rfl zG (by constructor) rfl zO ?_)
            dsimp only [St.put]
            refine gq (by kernel_rfl) ?_
            rw [hB]
            refine gp rfl (.inl rfl) zN (gk zG zG zG zG fun n o q1 q2 q3 q4 h => ?_)
            have hn := hlt n o h
            (try dsimp only)
            repeat (first | exact h | rw [eu (by omega)] | rw [e9 (by omega)])
           exact aq
          exact aq
         exact aq
        exact aq
       exact aq
      refine am ?_ ?_
      ·try dsimp only [St.put]
       refine cb rfl rfl rfl (b9 rfl rfl rfl (by decide) (by decide) zR (by decide) ⟨zD, ?_⟩)
       refine ar [16] (by kernel_rfl) (by simp) ?_
       refine am ?_ ?_
       ·try dsimp only [St.put]
        refine cb rfl rfl rfl (cg ([cr p.text x]) rfl rfl zG zE rfl rfl zA ⟨zD, ?_⟩ zA)
        refine ar [23] (by kernel_rfl) (by simp) ?_
        refine am ?_ ?_
        ·try dsimp only [St.put]
         refine bq rfl rfl rfl rfl (cg ([([] : List PlaceD)]) rfl rfl zG zE rfl rfl zA ?_ zA)
         refine cn [(24, none), (25, none)] 7 (rl [26, 7]) (by kernel_rfl) ?_
         refine ae rfl rfl rfl rfl (ce rfl rfl) ?_
         refine ae rfl rfl rfl rfl (bk rfl rfl) ?_
         refine az ⟨zD, ?_⟩
         refine ar [26] (by kernel_rfl) (by simp) ?_
         refine am ?_ ?_
         ·try dsimp only [St.put]
          refine bq rfl rfl rfl rfl (cd rfl rfl rfl zG (by constructor) rfl zO ?_)
          refine cn [(27, none), (28, none)] 4 (rl [29, 4]) (by kernel_rfl) ?_
          refine ae rfl rfl rfl rfl (ce rfl rfl) ?_
          refine ae rfl rfl rfl rfl (bk rfl rfl) ?_
          refine az ⟨zD, ?_⟩
          refine ar [29] (by kernel_rfl) (by simp) ?_
          refine am ?_ ?_
          ·try dsimp only [St.put]
           refine bq rfl rfl rfl rfl (cd rfl rfl rfl zG (by constructor) rfl zO ?_)
           refine cn [(30, none), (31, none)] 1 (rl [32, 1]) (by kernel_rfl) ?_
           refine ae rfl rfl rfl rfl (ce rfl rfl) ?_
           refine ae rfl rfl rfl rfl (bk rfl rfl) ?_
           refine az ⟨zD, ?_⟩
           refine ar [32] (by kernel_rfl) (by simp) ?_
           refine am ?_ ?_
           ·try dsimp only [St.put]
            refine bq rfl rfl rfl rfl (cd rfl rfl rfl zG (by constructor) rfl zO ?_)
            dsimp only [St.put]
            refine gq (by kernel_rfl) ?_
            rw [hB]
            refine gp rfl (.inl rfl) zN (gk zG zG zG zG fun n o q1 q2 q3 q4 h => ?_)
            have hn := hlt n o h
            (try dsimp only)
            repeat (first | exact h | rw [eu (by omega)] | rw [e9 (by omega)])
           exact aq
          exact aq
         exact aq
        exact aq
       exact aq
      exact aq
     refine am ?_ ?_
     ·try dsimp only [St.put]
      refine cb rfl rfl rfl (b9 rfl rfl rfl (by decide) (by decide) zR (by decide) ⟨zD, ?_⟩)
      refine ar [9] (by kernel_rfl) (by simp) ?_
      refine am ?_ ?_
      ·try dsimp only [St.put]
       refine cb rfl rfl rfl (cg ([(dm p.text x : Int)]) rfl rfl zG zE rfl rfl zA ⟨zD, ?_⟩ zA)
       refine ar [16] (by kernel_rfl) (by simp) ?_
       refine am ?_ ?_
       ·try dsimp only [St.put]
        refine cb rfl rfl rfl (cg ([cr p.text x]) rfl rfl zG zE rfl rfl zA ⟨zD, ?_⟩ zA)
        refine ar [23] (by kernel_rfl) (by simp) ?_
        refine am ?_ ?_
        ·try dsimp only [St.put]
         refine bq rfl rfl rfl rfl (cg ([([] : List PlaceD)]) rfl rfl zG zE rfl rfl zA ?_ zA)
         refine cn [(24, none), (25, none)] 7 (rl [26, 7]) (by kernel_rfl) ?_
         refine ae rfl rfl rfl rfl (ce rfl rfl) ?_
         refine ae rfl rfl rfl rfl (bk rfl rfl) ?_
         refine az ⟨zD, ?_⟩
         refine ar [26] (by kernel_rfl) (by simp) ?_
         refine am ?_ ?_
         ·try dsimp only [St.put]
          refine bq rfl rfl rfl rfl (cd rfl rfl rfl zG (by constructor) rfl zO ?_)
          refine cn [(27, none), (28, none)] 4 (rl [29, 4]) (by kernel_rfl) ?_
          refine ae rfl rfl rfl rfl (ce rfl rfl) ?_
          refine ae rfl rfl rfl rfl (bk rfl rfl) ?_
          refine az ⟨zD, ?_⟩
          refine ar [29] (by kernel_rfl) (by simp) ?_
          refine am ?_ ?_
          ·try dsimp only [St.put]
           refine bq rfl rfl rfl rfl (cd rfl rfl rfl zG (by constructor) rfl zO ?_)
           refine cn [(30, none), (31, none)] 1 (rl [32, 1]) (by kernel_rfl) ?_
           refine ae rfl rfl rfl rfl (ce rfl rfl) ?_
           refine ae rfl rfl rfl rfl (bk rfl rfl) ?_
           refine az ⟨zD, ?_⟩
           refine ar [32] (by kernel_rfl) (by simp) ?_
           refine am ?_ ?_
           ·try dsimp only [St.put]
            refine bq rfl rfl rfl rfl (cd rfl rfl rfl zG (by constructor) rfl zO ?_)
            dsimp only [St.put]
            refine gq (by kernel_rfl) ?_
            rw [hB]
            refine gp rfl (.inl rfl) zN (gk zG zG zG zG fun n o q1 q2 q3 q4 h => ?_)
            have hn := hlt n o h
            (try dsimp only)
            repeat (first | exact h | rw [eu (by omega)] | rw [e9 (by omega)])
           exact aq
          exact aq
         exact aq
        exact aq
       exact aq
      exact aq
     exact aq
    refine am ?_ ?_
    ·try dsimp only [St.put]
     refine cb rfl rfl rfl (b9 rfl rfl rfl (by decide) (by decide) zR (by decide) ⟨zD, ?_⟩)
     refine ar [9, 15] (by kernel_rfl) (by simp) ?_
     refine am ?_ ?_
     ·try dsimp only [St.put]
      refine cb rfl rfl rfl (cg ([(dm p.text x : Int)]) rfl rfl zG zE rfl rfl zA ⟨zD, ?_⟩ zA)
      refine ar [15] (by kernel_rfl) (by simp) ?_
      refine am ?_ ?_
      ·try dsimp only [St.put]
       refine cb rfl rfl rfl (b9 rfl rfl rfl (by decide) (by decide) zR (by decide) ⟨zD, ?_⟩)
       refine ar [16] (by kernel_rfl) (by simp) ?_
       refine am ?_ ?_
       ·try dsimp only [St.put]
        refine cb rfl rfl rfl (cg ([cr p.text x]) rfl rfl zG zE rfl rfl zA ⟨zD, ?_⟩ zA)
        refine ar [23] (by kernel_rfl) (by simp) ?_
        refine am ?_ ?_
        ·try dsimp only [St.put]
         refine bq rfl rfl rfl rfl (cg ([([] : List PlaceD)]) rfl rfl zG zE rfl rfl zA ?_ zA)
         refine cn [(24, none), (25, none)] 7 (rl [26, 7]) (by kernel_rfl) ?_
         refine ae rfl rfl rfl rfl (ce rfl rfl) ?_
         refine ae rfl rfl rfl rfl (bk rfl rfl) ?_
         refine az ⟨zD, ?_⟩
         refine ar [26] (by kernel_rfl) (by simp) ?_
         refine am ?_ ?_
         ·try dsimp only [St.put]
          refine bq rfl rfl rfl rfl (cd rfl rfl rfl zG (by constructor) rfl zO ?_)
          refine cn [(27, none), (28, none)] 4 (rl [29, 4]) (by kernel_rfl) ?_
          refine ae rfl rfl rfl rfl (ce rfl rfl) ?_
          refine ae rfl rfl rfl rfl (bk rfl rfl) ?_
          refine az ⟨zD, ?_⟩
          refine ar [29] (by kernel_rfl) (by simp) ?_
          refine am ?_ ?_
          ·try dsimp only [St.put]
           refine bq rfl rfl rfl rfl (cd rfl rfl rfl zG (by constructor) rfl zO ?_)
           refine cn [(30, none), (31, none)] 1 (rl [32, 1]) (by kernel_rfl) ?_
           refine ae rfl rfl rfl rfl (ce rfl rfl) ?_
           refine ae rfl rfl rfl rfl (bk rfl rfl) ?_
           refine az ⟨zD, ?_⟩
           refine ar [32] (by kernel_rfl) (by simp) ?_
           refine am ?_ ?_
           ·try dsimp only [St.put]
            refine bq rfl rfl rfl rfl (cd rfl rfl rfl zG (by constructor) rfl zO ?_)
            dsimp only [St.put]
            refine gq (by kernel_rfl) ?_
            rw [hB]
            refine gp rfl (.inl rfl) zN (gk zG zG zG zG fun n o q1 q2 q3 q4 h => ?_)
            have hn := hlt n o h
            (try dsimp only)
            repeat (first | exact h | rw [eu (by omega)] | rw [e9 (by omega)])
           exact aq
          exact aq
         exact aq
        exact aq
       exact aq
      exact aq
     refine am ?_ ?_
     ·try dsimp only [St.put]
      refine cb rfl rfl rfl (b9 rfl rfl rfl (by decide) (by decide) zR (by decide) ⟨zD, ?_⟩)
      refine ar [9] (by kernel_rfl) (by simp) ?_
      refine am ?_ ?_
      ·try dsimp only [St.put]
       refine cb rfl rfl rfl (cg ([(dm p.text x : Int)]) rfl rfl zG zE rfl rfl zA ⟨zD, ?_⟩ zA)
       refine ar [16] (by kernel_rfl) (by simp) ?_
       refine am ?_ ?_
       ·try dsimp only [St.put]
        refine cb rfl rfl rfl (cg ([cr p.text x]) rfl rfl zG zE rfl rfl zA ⟨zD, ?_⟩ zA)
        refine ar [23] (by kernel_rfl) (by simp) ?_
        refine am ?_ ?_
        ·try dsimp only [St.put]
         refine bq rfl rfl rfl rfl (cg ([([] : List PlaceD)]) rfl rfl zG zE rfl rfl zA ?_ zA)
         refine cn [(24, none), (25, none)] 7 (rl [26, 7]) (by kernel_rfl) ?_
         refine ae rfl rfl rfl rfl (ce rfl rfl) ?_
         refine ae rfl rfl rfl rfl (bk rfl rfl) ?_
         refine az ⟨zD, ?_⟩
         refine ar [26] (by kernel_rfl) (by simp) ?_
         refine am ?_ ?_
         ·try dsimp only [St.put]
          refine bq rfl rfl rfl rfl (cd rfl rfl rfl zG (by constructor) rfl zO ?_)
          refine cn [(27, none), (28, none)] 4 (rl [29, 4]) (by kernel_rfl) ?_
          refine ae rfl rfl rfl rfl (ce rfl rfl) ?_
          refine ae rfl rfl rfl rfl (bk rfl rfl) ?_
          refine az ⟨zD, ?_⟩
          refine ar [29] (by kernel_rfl) (by simp) ?_
          refine am ?_ ?_
          ·try dsimp only [St.put]
           refine bq rfl rfl rfl rfl (cd rfl rfl rfl zG (by constructor) rfl zO ?_)
           refine cn [(30, none), (31, none)] 1 (rl [32, 1]) (by kernel_rfl) ?_
           refine ae rfl rfl rfl rfl (ce rfl rfl) ?_
           refine ae rfl rfl rfl rfl (bk rfl rfl) ?_
           refine az ⟨zD, ?_⟩
           refine ar [32] (by kernel_rfl) (by simp) ?_
           refine am ?_ ?_
           ·try dsimp only [St.put]
            refine bq rfl rfl rfl rfl (cd rfl rfl rfl zG (by constructor) rfl zO ?_)
            dsimp only [St.put]
            refine gq (by kernel_rfl) ?_
            rw [hB]
            refine gp rfl (.inl rfl) zN (gk zG zG zG zG fun n o q1 q2 q3 q4 h => ?_)
            have hn := hlt n o h
            (try dsimp only)
            repeat (first | exact h | rw [eu (by omega)] | rw [e9 (by omega)])
           exact aq
          exact aq
         exact aq
        exact aq
       exact aq
      exact aq
     exact aq
    exact aq
   refine am ?_ ?_
   ·try dsimp only [St.put]
    refine cb rfl rfl rfl (b9 rfl rfl rfl (by decide) (by decide) zR (by decide) ⟨zD, ?_⟩)
    refine ar [8, 22] (by kernel_rfl) (by simp) ?_
    refine am ?_ ?_
    ·try dsimp only [St.put]
     refine cb rfl rfl rfl (b9 rfl rfl rfl (by decide) (by decide) zR (by decide) ⟨zD, ?_⟩)
     refine ar [9, 22] (by kernel_rfl) (by simp) ?_
     refine am ?_ ?_
     ·try dsimp only [St.put]
      refine cb rfl rfl rfl (cg ([(dm p.text x : Int)]) rfl rfl zG zE rfl rfl zA ⟨zD, ?_⟩ zA)
      refine ar [16, 22] (by kernel_rfl) (by simp) ?_
      refine am ?_ ?_
      ·try dsimp only [St.put]
       refine cb rfl rfl rfl (cg ([cr p.text x]) rfl rfl zG zE rfl rfl zA ⟨zD, ?_⟩ zA)
       refine ar [22] (by kernel_rfl) (by simp) ?_
       refine am ?_ ?_
       ·try dsimp only [St.put]
        refine cb rfl rfl rfl (b9 rfl rfl rfl (by decide) (by decide) zR (by decide) ⟨zD, ?_⟩)
        refine ar [23] (by kernel_rfl) (by simp) ?_
        refine am ?_ ?_
        ·try dsimp only [St.put]
         refine bq rfl rfl rfl rfl (cg ([([] : List PlaceD)]) rfl rfl zG zE rfl rfl zA ?_ zA)
         refine cn [(24, none), (25, none)] 7 (rl [26, 7]) (by kernel_rfl) ?_
         refine ae rfl rfl rfl rfl (ce rfl rfl) ?_
         refine ae rfl rfl rfl rfl (bk rfl rfl) ?_
         refine az ⟨zD, ?_⟩
         refine ar [26] (by kernel_rfl) (by simp) ?_
         refine am ?_ ?_
         ·try dsimp only [St.put]
          refine bq rfl rfl rfl rfl (cd rfl rfl rfl zG (by constructor) rfl zO ?_)
          refine cn [(27, none), (28, none)] 4 (rl [29, 4]) (by kernel_rfl) ?_
          refine ae rfl rfl rfl rfl (ce rfl rfl) ?_
          refine ae rfl rfl rfl rfl (bk rfl rfl) ?_
          refine az ⟨zD, ?_⟩
          refine ar [29] (by kernel_rfl) (by simp) ?_
          refine am ?_ ?_
          ·try dsimp only [St.put]
           refine bq rfl rfl rfl rfl (cd rfl rfl rfl zG (by constructor) rfl zO ?_)
           refine cn [(30, none), (31, none)] 1 (rl [32, 1]) (by kernel_rfl) ?_
           refine ae rfl rfl rfl rfl (ce rfl rfl) ?_
           refine ae rfl rfl rfl rfl (bk rfl rfl) ?_
           refine az ⟨zD, ?_⟩
           refine ar [32] (by kernel_rfl) (by simp) ?_
           refine am ?_ ?_
           ·try dsimp only [St.put]
            refine bq rfl rfl rfl rfl (cd rfl rfl rfl zG (by constructor) rfl zO ?_)
            dsimp only [St.put]
            refine gq (by kernel_rfl) ?_
            rw [hB]
            refine gp rfl (.inl rfl) zN (gk zG zG zG zG fun n o q1 q2 q3 q4 h => ?_)
            have hn := hlt n o h
            (try dsimp only)
            repeat (first | exact h | rw [eu (by omega)] | rw [e9 (by omega)])
           exact aq
          exact aq
         exact aq
        exact aq
       exact aq
      refine am ?_ ?_
      ·try dsimp only [St.put]
       refine cb rfl rfl rfl (b9 rfl rfl rfl (by decide) (by decide) zR (by decide) ⟨zD, ?_⟩)
       refine ar [16] (by kernel_rfl) (by simp) ?_
       refine am ?_ ?_
       ·try dsimp only [St.put]
        refine cb rfl rfl rfl (cg ([cr p.text x]) rfl rfl zG zE rfl rfl zA ⟨zD, ?_⟩ zA)
        refine ar [23] (by kernel_rfl) (by simp) ?_
        refine am ?_ ?_
        ·try dsimp only [St.put]
         refine bq rfl rfl rfl rfl (cg ([([] : List PlaceD)]) rfl rfl zG zE rfl rfl zA ?_ zA)
         refine cn [(24, none), (25, none)] 7 (rl [26, 7]) (by kernel_rfl) ?_
         refine ae rfl rfl rfl rfl (ce rfl rfl) ?_
         refine ae rfl rfl rfl rfl (bk rfl rfl) ?_
         refine az ⟨zD, ?_⟩
         refine ar [26] (by kernel_rfl) (by simp) ?_
         refine am ?_ ?_
         ·try dsimp only [St.put]
          refine bq rfl rfl rfl rfl (cd rfl rfl rfl zG (by constructor) rfl zO ?_)
          refine cn [(27, none), (28, none)] 4 (rl [29, 4]) (by kernel_rfl) ?_
          refine ae rfl rfl rfl rfl (ce rfl rfl) ?_
          refine ae rfl rfl rfl rfl (bk rfl rfl) ?_
          refine az ⟨zD, ?_⟩
          refine ar [29] (by kernel_rfl) (by simp) ?_
          refine am ?_ ?_
          ·try dsimp only [St.put]
           refine bq rfl rfl rfl rfl (cd rfl rfl rfl zG (by constructor) rfl zO ?_)
           refine cn [(30, none), (31, none)] 1 (rl [32, 1]) (by kernel_rfl) ?_
           refine ae rfl rfl rfl rfl (ce rfl rfl) ?_
           refine ae rfl rfl rfl rfl (bk rfl rfl) ?_
           refine az ⟨zD, ?_⟩
           refine ar [32] (by kernel_rfl) (by simp) ?_
           refine am ?_ ?_
           ·try dsimp only [St.put]
            refine bq rfl rfl rfl rfl (cd rfl rfl rfl zG (by constructor) rfl zO ?_)
            dsimp only [St.put]
            refine gq (by kernel_rfl) ?_
            rw [hB]
            refine gp rfl (.inl rfl) zN (gk zG zG zG zG fun n o q1 q2 q3 q4 h => ?_)
            have hn := hlt n o h
            (try dsimp only)
            repeat (first | exact h | rw [eu (by omega)] | rw [e9 (by omega)])
           exact aq
          exact aq
         exact aq
        exact aq
       exact aq
      exact aq
     refine am ?_ ?_
     ·try dsimp only [St.put]
      refine cb rfl rfl rfl (b9 rfl rfl rfl (by decide) (by decide) zR (by decide) ⟨zD, ?_⟩)
      refine ar [9] (by kernel_rfl) (by simp) ?_
      refine am ?_ ?_
      ·try dsimp only [St.put]
       refine cb rfl rfl rfl (cg ([(dm p.text x : Int)]) rfl rfl zG zE rfl rfl zA ⟨zD, ?_⟩ zA)
       refine ar [16] (by kernel_rfl) (by simp) ?_
       refine am ?_ ?_
       ·try dsimp only [St.put]
        refine cb rfl rfl rfl (cg ([cr p.text x]) rfl rfl zG zE rfl rfl zA ⟨zD, ?_⟩ zA)
        refine ar [23] (by kernel_rfl) (by simp) ?_
        refine am ?_ ?_
        ·try dsimp only [St.put]
         refine bq rfl rfl rfl rfl (cg ([([] : List PlaceD)]) rfl rfl zG zE rfl rfl zA ?_ zA)
         refine cn [(24, none), (25, none)] 7 (rl [26, 7]) (by kernel_rfl) ?_
         refine ae rfl rfl rfl rfl (ce rfl rfl) ?_
         refine ae rfl rfl rfl rfl (bk rfl rfl) ?_
         refine az ⟨zD, ?_⟩
         refine ar [26] (by kernel_rfl) (by simp) ?_
         refine am ?_ ?_
         ·try dsimp only [St.put]
          refine bq rfl rfl rfl rfl (cd rfl rfl rfl zG (by constructor) rfl zO ?_)
          refine cn [(27, none), (28, none)] 4 (rl [29, 4]) (by kernel_rfl) ?_
          refine ae rfl rfl rfl rfl (ce rfl rfl) ?_
          refine ae rfl rfl rfl rfl (bk rfl rfl) ?_
          refine az ⟨zD, ?_⟩
          refine ar [29] (by kernel_rfl) (by simp) ?_
          refine am ?_ ?_
          ·try dsimp only [St.put]
           refine bq rfl rfl rfl rfl (cd rfl rfl rfl zG (by constructor) rfl zO ?_)
           refine cn [(30, none), (31, none)] 1 (rl [32, 1]) (by kernel_rfl) ?_
           refine ae rfl rfl rfl rfl (ce rfl rfl) ?_
           refine ae rfl rfl rfl rfl (bk rfl rfl) ?_
           refine az ⟨zD, ?_⟩
           refine ar [32] (by kernel_rfl) (by simp) ?_
           refine am ?_ ?_
           ·try dsimp only [St.put]
            refine bq rfl rfl rfl rfl (cd rfl rfl rfl zG (by constructor) rfl zO ?_)
            dsimp only [St.put]
            refine gq (by kernel_rfl) ?_
            rw [hB]
            refine gp rfl (.inl rfl) zN (gk zG zG zG zG fun n o q1 q2 q3 q4 h => ?_)
            have hn := hlt n o h
            (try dsimp only)
            repeat (first | exact h | rw [eu (by omega)] | rw [e9 (by omega)])
           exact aq
          exact aq
         exact aq
        exact aq
       exact aq
      exact aq
     exact aq
    refine am ?_ ?_
    ·try dsimp only [St.put]
     refine cb rfl rfl rfl (b9 rfl rfl rfl (by decide) (by decide) zR (by decide) ⟨zD, ?_⟩)
     refine ar [8] (by kernel_rfl) (by simp) ?_
     refine am ?_ ?_
     ·try dsimp only [St.put]
      refine cb rfl rfl rfl (b9 rfl rfl rfl (by decide) (by decide) zR (by decide) ⟨zD, ?_⟩)
      refine ar [9] (by kernel_rfl) (by simp) ?_
      refine am ?_ ?_
      ·try dsimp only [St.put]
       refine cb rfl rfl rfl (cg ([(dm p.text x : Int)]) rfl rfl zG zE rfl rfl zA ⟨zD, ?_⟩ zA)
       refine ar [16] (by kernel_rfl) (by simp) ?_
       refine am ?_ ?_
       ·try dsimp only [St.put]
        refine cb rfl rfl rfl (cg ([cr p.text x]) rfl rfl zG zE rfl rfl zA ⟨zD, ?_⟩ zA)
        refine ar [23] (by kernel_rfl) (by simp) ?_
        refine am ?_ ?_
        ·try dsimp only [St.put]
         refine bq rfl rfl rfl rfl (cg ([([] : List PlaceD)]) rfl rfl zG zE rfl rfl zA ?_ zA)
         refine cn [(24, none), (25, none)] 7 (rl [26, 7]) (by kernel_rfl) ?_
         refine ae rfl rfl rfl rfl (ce rfl rfl) ?_
         refine ae rfl rfl rfl rfl (bk rfl rfl) ?_
         refine az ⟨zD, ?_⟩
         refine ar [26] (by kernel_rfl) (by simp) ?_
         refine am ?_ ?_
         ·try dsimp only [St.put]
          refine bq rfl rfl rfl rfl (cd rfl rfl rfl zG (by constructor) rfl zO ?_)
          refine cn [(27, none), (28, none)] 4 (rl [29, 4]) (by kernel_rfl) ?_
          refine ae rfl rfl rfl rfl (ce rfl rfl) ?_
          refine ae rfl rfl rfl rfl (bk rfl rfl) ?_
          refine az ⟨zD, ?_⟩
          refine ar [29] (by kernel_rfl) (by simp) ?_
          refine am ?_ ?_
          ·try dsimp only [St.put]
           refine bq rfl rfl rfl rfl (cd rfl rfl rfl zG (by constructor) rfl zO ?_)
           refine cn [(30, none), (31, none)] 1 (rl [32, 1]) (by kernel_rfl) ?_
           refine ae rfl rfl rfl rfl (ce rfl rfl) ?_
           refine ae rfl rfl rfl rfl (bk rfl rfl) ?_
           refine az ⟨zD, ?_⟩
           refine ar [32] (by kernel_rfl) (by simp) ?_
           refine am ?_ ?_
           ·try dsimp only [St.put]
            refine bq rfl rfl rfl rfl (cd rfl rfl rfl zG (by constructor) rfl zO ?_)
            dsimp only [St.put]
            refine gq (by kernel_rfl) ?_
            rw [hB]
            refine gp rfl (.inl rfl) zN (gk zG zG zG zG fun n o q1 q2 q3 q4 h => ?_)
            have hn := hlt n o h
            (try dsimp only)
            repeat (first | exact h | rw [eu (by omega)] | rw [e9 (by omega)])
           exact aq
          exact aq
         exact aq
        exact aq
       exact aq
      exact aq
     exact aq
    exact aq
   refine am ?_ ?_
   ·try dsimp only [St.put]
    refine cb rfl rfl rfl (b9 rfl rfl rfl (by decide) (by decide) zR (by decide) ⟨zD, ?_⟩)
    refine ar [8, 15] (by kernel_rfl) (by simp) ?_
    refine am ?_ ?_
    ·try dsimp only [St.put]
     refine cb rfl rfl rfl (b9 rfl rfl rfl (by decide) (by decide) zR (by decide) ⟨zD, ?_⟩)
     refine ar [9, 15] (by kernel_rfl) (by simp) ?_
     refine am ?_ ?_
     ·try dsimp only [St.put]
      refine cb rfl rfl rfl (cg ([(dm p.text x : Int)]) rfl rfl zG zE rfl rfl zA ⟨zD, ?_⟩ zA)
      refine ar [15] (by kernel_rfl) (by simp) ?_
      refine am ?_ ?_
      ·try dsimp only [St.put]
       refine cb rfl rfl rfl (b9 rfl rfl rfl (by decide) (by decide) zR (by decide) ⟨zD, ?_⟩)
       refine ar [16] (by kernel_rfl) (by simp) ?_
       refine am ?_ ?_
       ·try dsimp only [St.put]
        refine cb rfl rfl rfl (cg ([cr p.text x]) rfl rfl zG zE rfl rfl zA ⟨zD, ?_⟩ zA)
        refine ar [23] (by kernel_rfl) (by simp) ?_
        refine am ?_ ?_
        ·try dsimp only [St.put]
         refine bq rfl rfl rfl rfl (cg ([([] : List PlaceD)]) rfl rfl zG zE rfl rfl zA ?_ zA)
         refine cn [(24, none), (25, none)] 7 (rl [26, 7]) (by kernel_rfl) ?_
         refine ae rfl rfl rfl rfl (ce rfl rfl) ?_
         refine ae rfl rfl rfl rfl (bk rfl rfl) ?_
         refine az ⟨zD, ?_⟩
         refine ar [26] (by kernel_rfl) (by simp) ?_
         refine am ?_ ?_
         ·try dsimp only [St.put]
          refine bq rfl rfl rfl rfl (cd rfl rfl rfl zG (by constructor) rfl zO ?_)
          refine cn [(27, none), (28, none)] 4 (rl [29, 4]) (by kernel_rfl) ?_
          refine ae rfl rfl rfl rfl (ce rfl rfl) ?_
          refine ae rfl rfl rfl rfl (bk rfl rfl) ?_
          refine az ⟨zD, ?_⟩
          refine ar [29] (by kernel_rfl) (by simp) ?_
          refine am ?_ ?_
          ·try dsimp only [St.put]
           refine bq rfl rfl rfl rfl (cd rfl rfl rfl zG (by constructor) rfl zO ?_)
           refine cn [(30, none), (31, none)] 1 (rl [32, 1]) (by kernel_rfl) ?_
           refine ae rfl rfl rfl rfl (ce rfl rfl) ?_
           refine ae rfl rfl rfl rfl (bk rfl rfl) ?_
           refine az ⟨zD, ?_⟩
           refine ar [32] (by kernel_rfl) (by simp) ?_
           refine am ?_ ?_
           ·try dsimp only [St.put]
            refine bq rfl rfl rfl rfl (cd rfl rfl rfl zG (by constructor) rfl zO ?_)
            dsimp only [St.put]
            refine gq (by kernel_rfl) ?_
            rw [hB]
            refine gp rfl (.inl rfl) zN (gk zG zG zG zG fun n o q1 q2 q3 q4 h => ?_)
            have hn := hlt n o h
            (try dsimp only)
            repeat (first | exact h | rw [eu (by omega)] | rw [e9 (by omega)])
           exact aq
          exact aq
         exact aq
        exact aq
       exact aq
      exact aq
     refine am ?_ ?_
     ·try dsimp only [St.put]
      refine cb rfl rfl rfl (b9 rfl rfl rfl (by decide) (by decide) zR (by decide) ⟨zD, ?_⟩)
      refine ar [9] (by kernel_rfl) (by simp) ?_
      refine am ?_ ?_
      ·try dsimp only [St.put]
       refine cb rfl rfl rfl (cg ([(dm p.text x : Int)]) rfl rfl zG zE rfl rfl zA ⟨zD, ?_⟩ zA)
       refine ar [16] (by kernel_rfl) (by simp) ?_
       refine am ?_ ?_
       ·try dsimp only [St.put]
        refine cb rfl rfl rfl (cg ([cr p.text x]) rfl rfl zG zE rfl rfl zA ⟨zD, ?_⟩ zA)
        refine ar [23] (by kernel_rfl) (by simp) ?_
        refine am ?_ ?_
        ·try dsimp only [St.put]
         refine bq rfl rfl rfl rfl (cg ([([] : List PlaceD)]) rfl rfl zG zE rfl rfl zA ?_ zA)
         refine cn [(24, none), (25, none)] 7 (rl [26, 7]) (by kernel_rfl) ?_
         refine ae rfl rfl rfl rfl (ce rfl rfl) ?_
         refine ae rfl rfl rfl rfl (bk rfl rfl) ?_
         refine az ⟨zD, ?_⟩
         refine ar [26] (by kernel_rfl) (by simp) ?_
         refine am ?_ ?_
         ·try dsimp only [St.put]
          refine bq rfl rfl rfl rfl (cd rfl rfl rfl zG (by constructor) rfl zO ?_)
          refine cn [(27, none), (28, none)] 4 (rl [29, 4]) (by kernel_rfl) ?_
          refine ae rfl rfl rfl rfl (ce rfl rfl) ?_
          refine ae rfl rfl rfl rfl (bk rfl rfl) ?_
          refine az ⟨zD, ?_⟩
          refine ar [29] (by kernel_rfl) (by simp) ?_
          refine am ?_ ?_
          ·try dsimp only [St.put]
           refine bq rfl rfl rfl rfl (cd rfl rfl rfl zG (by constructor) rfl zO ?_)
           refine cn [(30, none), (31, none)] 1 (rl [32, 1]) (by kernel_rfl) ?_
           refine ae rfl rfl rfl rfl (ce rfl rfl) ?_
           refine ae rfl rfl rfl rfl (bk rfl rfl) ?_
           refine az ⟨zD, ?_⟩
           refine ar [32] (by kernel_rfl) (by simp) ?_
           refine am ?_ ?_
           ·try dsimp only [St.put]
            refine bq rfl rfl rfl rfl (cd rfl rfl rfl zG (by constructor) rfl zO ?_)
            dsimp only [St.put]
            refine gq (by kernel_rfl) ?_
            rw [hB]
            refine gp rfl (.inl rfl) zN (gk zG zG zG zG fun n o q1 q2 q3 q4 h => ?_)
            have hn := hlt n o h
            (try dsimp only)
            repeat (first | exact h | rw [eu (by omega)] | rw [e9 (by omega)])
           exact aq
          exact aq
         exact aq
        exact aq
       exact aq
      exact aq
     exact aq
    refine am ?_ ?_
    ·try dsimp only [St.put]
     refine cb rfl rfl rfl (b9 rfl rfl rfl (by decide) (by decide) zR (by decide) ⟨zD, ?_⟩)
     refine ar [8] (by kernel_rfl) (by simp) ?_
     refine am ?_ ?_
     ·try dsimp only [St.put]
      refine cb rfl rfl rfl (b9 rfl rfl rfl (by decide) (by decide) zR (by decide) ⟨zD, ?_⟩)
      refine ar [9] (by kernel_rfl) (by simp) ?_
      refine am ?_ ?_
      ·try dsimp only [St.put]
       refine cb rfl rfl rfl (cg ([(dm p.text x : Int)]) rfl rfl zG zE rfl rfl zA ⟨zD, ?_⟩ zA)
       refine ar [16] (by kernel_rfl) (by simp) ?_
       refine am ?_ ?_
       ·try dsimp only [St.put]
        refine cb rfl rfl rfl (cg ([cr p.text x]) rfl rfl zG zE rfl rfl zA ⟨zD, ?_⟩ zA)
        refine ar [23] (by kernel_rfl) (by simp) ?_
        refine am ?_ ?_
        ·try dsimp only [St.put]
         refine bq rfl rfl rfl rfl (cg ([([] : List PlaceD)]) rfl rfl zG zE rfl rfl zA ?_ zA)
         refine cn [(24, none), (25, none)] 7 (rl [26, 7]) (by kernel_rfl) ?_
         refine ae rfl rfl rfl rfl (ce rfl rfl) ?_
         refine ae rfl rfl rfl rfl (bk rfl rfl) ?_
         refine az ⟨zD, ?_⟩
         refine ar [26] (by kernel_rfl) (by simp) ?_
         refine am ?_ ?_
         ·try dsimp only [St.put]
          refine bq rfl rfl rfl rfl (cd rfl rfl rfl zG (by constructor) rfl zO ?_)
          refine cn [(27, none), (28, none)] 4 (rl [29, 4]) (by kernel_rfl) ?_
          refine ae rfl rfl rfl rfl (ce rfl rfl) ?_
          refine ae rfl rfl rfl rfl (bk rfl rfl) ?_
          refine az ⟨zD, ?_⟩
          refine ar [29] (by kernel_rfl) (by simp) ?_
          refine am ?_ ?_
          ·try dsimp only [St.put]
           refine bq rfl rfl rfl rfl (cd rfl rfl rfl zG (by constructor) rfl zO ?_)
           refine cn [(30, none), (31, none)] 1 (rl [32, 1]) (by kernel_rfl) ?_
           refine ae rfl rfl rfl rfl (ce rfl rfl) ?_
           refine ae rfl rfl rfl rfl (bk rfl rfl) ?_
           refine az ⟨zD, ?_⟩
           refine ar [32] (by kernel_rfl) (by simp) ?_
           refine am ?_ ?_
           ·try dsimp only [St.put]
            refine bq rfl rfl rfl rfl (cd rfl rfl rfl zG (by constructor) rfl zO ?_)
            dsimp only [St.put]
            refine gq (by kernel_rfl) ?_
            rw [hB]
            refine gp rfl (.inl rfl) zN (gk zG zG zG zG fun n o q1 q2 q3 q4 h => ?_)
            have hn := hlt n o h
            (try dsimp only)
            repeat (first | exact h | rw [eu (by omega)] | rw [e9 (by omega)])
           exact aq
          exact aq
         exact aq
        exact aq
       exact aq
      exact aq
     exact aq
    exact aq
   exact aq
  have hz0 := xx hym
  subst hz0
  obtain ⟨z, hz⟩ : ∃ z, z = y := ⟨_, rfl⟩
  subst hz
  have hIn : ∀ z ∈ ks, ∀ x ∈ done ++ [z], x ∈ ks := fun z hz x hx => by
   rcases List.mem_append.1 hx with hx | hx
   ·exact hI8.1 x hx
   rw [List.mem_singleton] at hx; exact hx ▸ hz
  have hIu : ∀ z, z ∉ done → (done ++ [z]).Nodup := fun z hz => List.nodup_append.2 ⟨hI8.2, by simp, fun a ha b hb => by
   rw [List.mem_singleton] at hb; subst hb; exact fun e => hz (e ▸ ha)⟩
  have hdl := ut hp hI8.2 (fun q hq => onceM_ne.1 ((hks0 q).2 (hI8.1 q hq)))
  refine yX rfl rfl rfl rfl ?_
  refine yN ?_
  dsimp only [St.put]
  refine K34 _ ?_
  refine yS fun _ K37 => ?_
  refine av rfl (fun _ => ?_) (fun h => by cases h)
  refine ay ?_
  refine K37 _ ?_
  refine bg ?_
  refine yS fun _ K38 => ?_
  refine yR ?_
  try dsimp only [St.put]
  refine ck rfl (uax (fx := nx + 1 + 1 + 1) (n := nx) rfl rfl zG trivial zG zG trivial (by assumption)) ?_
  refine yX rfl rfl rfl rfl ?_
  try dsimp only [St.put]
  refine af rfl (dx rfl ?_)
  try dsimp only [St.put]
  refine af rfl (dh rfl rfl rfl zG rfl rfl (by rfl) ?_)
  refine yN ?_
  dsimp only [St.put]
  refine K38 _ ?_
  refine gh (i := 18) rfl zG zC ?_
  dsimp only
  refine yR ?_
  refine yM rfl rfl ?_
  try dsimp only [St.put]
  refine ck rfl (e8 rfl rfl rfl) ?_
  try dsimp only [St.put]
  refine af rfl (b9 rfl rfl rfl (by decide) (by decide) zR (by decide) ?_)
  try dsimp only [St.put]
  refine af rfl (qw (xs := ([] : List PlaceD) ++ done) [z] rfl rfl zG rfl rfl rfl rfl zA zA (fun v3 => ?_))
  refine yA rfl rfl ?_
  refine yN ?_
  dsimp only [St.put]
  simp only [List.append_assoc]
  exact ⟨(done ++ [z], wi + 1, v3, wv), uc0 hyk hyd, ⟨hIn z hyk, hIu z hyd⟩, ⟨⟨rfl, rfl⟩, zF, zB, zN, zX⟩⟩
 refine yR ?_
 refine yA rfl rfl ?_
 refine yN ?_
 dsimp only [St.put]
 refine K22 _ ?_
 refine m9 14 61 3 rfl (by decide) ?_
 dsimp only [List.set_cons_zero, List.set_cons_succ]
 refine yS fun _ K39 => ?_
 refine yS fun _ K40 => ?_
 refine yR ?_
 refine yF rfl rfl rfl rfl ?_
 refine yL rfl rfl rfl ?_
 refine aa rfl (bp rfl rfl (List.length_map _)) ?_
 refine yM rfl rfl ?_
 refine yN ?_
 dsimp only [St.put]
 refine K40 _ ?_
 refine bg ?_
 refine ct 72 ?_
 refine zQ ?_
 refine dd (ak ((ak G nx (iv Tryz.prog 61 (x.found.length) ((gz (gm x.found (x.well.take 0))))))) (nx + 1) (.tip 0 61 3)) zX ?_
 dsimp only
 refine dc (X := Nat) (fun k => k ≤ x.well.length) (fun k => x.well.length - k) (fun k => [(14, .list ((mi x.found x.well k).map cells) (.tip (nx + 1))), (16, .any), (71, .v (.int .i64 (k : Int)))]) (fun k G' => ak ((ak G nx (iv Tryz.prog 61 ((x.found.length + k)) ((gz (gm x.found (x.well.take k))))))) (nx + 1) (.tip (mi x.found x.well k).length 61 3)) 0 rfl ?_ ?_ ?_ ?_ ?_ ?_
 ·exact Nat.zero_le _
 ·exact zF
 ·exact zX
 ·rintro k hI
  exact (by (try dsimp only); repeat' (first | exact trivial | refine ⟨?_, ?_⟩ | exact .v | exact .any | refine .elem ?_ | exact ca _ _ | exact fq _ _ | exact el _ _ | exact fy _ (by (try dsimp only); omega) | exact .box (by (try dsimp only); omega) | exact fk | exact dn | exact iu (mw _ _) | refine ga ?_ ?_ | exact .arr (by (try dsimp only); omega) | exact .own (by (try dsimp only); omega) | exact .map (by (try dsimp only); omega) | exact fe _ | refine co ?_ ?_ | exact ca _ _))
 ·rintro k hI
  exact (by (repeat' (refine la ?_ (by (try dsimp only); omega) ?_)); all_goals (first | exact ld zS | (repeat' (first | exact trivial | refine ⟨?_, ?_⟩ | exact .v | exact .any | refine .elem ?_ | exact ca _ _ | exact fq _ _ | exact el _ _ | exact fy _ (by (try dsimp only); omega) | exact .box (by (try dsimp only); omega) | exact fk | exact dn | exact iu (mw _ _) | refine ga ?_ ?_ | exact .arr (by (try dsimp only); omega) | exact .own (by (try dsimp only); omega) | exact .map (by (try dsimp only); omega) | exact fe _ | refine co ?_ ?_ | exact ca _ _))))
 rintro k hK
 dsimp only at hK ⊢
 refine yS fun _ K41 => ?_
 refine yR ?_
 refine aa rfl (cp rfl rfl rfl) ?_
 refine yN ?_
 dsimp only [St.put]
 refine K41 _ ?_
 refine yS fun _ K42 => ?_
 refine av rfl (fun hc => ?_) (fun hc => ?_)
 ·replace hc := of_decide_eq_true hc
  obtain ⟨q, hq⟩ : ∃ q, x.well[k]? = some q := dp (by omega)
  have hbt := ueu x.found x.well k
  refine ay ?_
  refine K42 _ ?_
  refine yS fun _ K43 => ?_
  refine bg ?_
  refine yS fun _ K44 => ?_
  refine yR ?_
  refine aa rfl (bx rfl rfl rfl rfl (bv (by assumption)) (Enc.len _)) ?_
  refine yE rfl rfl rfl ?_
  try dsimp only [St.put]
  refine af rfl (dx rfl ?_)
  try dsimp only [St.put]
  refine af rfl (dh rfl rfl rfl zG rfl rfl (by rfl) ?_)
  refine yN ?_
  dsimp only [St.put]
  refine K44 _ ?_
  refine gh (i := 16) rfl zG zC ?_
  dsimp only
  refine yS fun _ K45 => ?_
  refine yR ?_
  refine yM rfl rfl ?_
  refine yE rfl rfl rfl ?_
  try dsimp only [St.put]
  refine ck rfl (uk q rfl rfl zG trivial rfl (ub3 _ _)) ?_
  refine yN ?_
  dsimp only [St.put]
  refine K45 _ ?_
  refine av rfl (fun hc => ?_) (fun hc => ?_)
  ·have hin : q ∈ x.found := by
    rw [uu hnd2 hq] at hc
    exact of_decide_eq_true hc
   refine yS fun _ K46 => ?_
   refine yR ?_
   refine yM rfl rfl ?_
   refine yE rfl rfl rfl ?_
   try dsimp only [St.put]
   refine af rfl (b9 rfl rfl rfl (by decide) (by decide) zR (by decide) ?_)
   try dsimp only [St.put]
   refine af rfl (cg ([q]) rfl rfl zG zE rfl rfl zA ?_ zA)
   refine yA rfl rfl ?_
   refine yN ?_
   dsimp only [St.put]
   refine K46 _ ?_
   refine yR ?_
   refine yM rfl rfl ?_
   refine yE rfl rfl rfl ?_
   try dsimp only [St.put]
   refine af rfl (ueg q rfl rfl zG rfl (ub2 hnd2 hq hin) ?_)
   refine yN ?_
   dsimp only [St.put]
   refine K43 _ ?_
   refine yR ?_
   refine aa rfl (bz rfl rfl rfl (by omega)) ?_
   refine yM rfl rfl ?_
   refine yN ?_
   dsimp only [St.put]
   have e := uet (F := x.found) hq
   first
   | (have hi : q ∈ x.found := hin
      rw [decide_eq_true hi, cond_true] at e
      simp only [← e]
      exact ⟨k + 1, by omega, by omega, ⟨⟨rfl, rfl⟩, zF, zB, zN, zX⟩⟩)
   | (have hi : q ∉ x.found := hout
      rw [decide_eq_false hi, cond_false, List.append_nil] at e
      simp only [← e]
      exact ⟨k + 1, by omega, by omega, ⟨⟨rfl, rfl⟩, zF, zB, zN, zX⟩⟩)
  have hout : q ∉ x.found := by
   rw [uu hnd2 hq] at hc
   exact of_decide_eq_false hc
  refine yR ?_
  refine yM rfl rfl ?_
  refine yE rfl rfl rfl ?_
  try dsimp only [St.put]
  refine af rfl (tg (q) rfl rfl rfl zG rfl (ub1 hnd2 hq hout) ?_)
  refine yN ?_
  dsimp only [St.put]
  refine K43 _ ?_
  refine yR ?_
  refine aa rfl (bz rfl rfl rfl (by omega)) ?_
  refine yM rfl rfl ?_
  refine yN ?_
  dsimp only [St.put]
  have e := uet (F := x.found) hq
  first
  | (have hi : q ∈ x.found := hin
     rw [decide_eq_true hi, cond_true] at e
     simp only [← e]
     exact ⟨k + 1, by omega, by omega, ⟨⟨rfl, rfl⟩, zF, zB, zN, zX⟩⟩)
  | (have hi : q ∉ x.found := hout
     rw [decide_eq_false hi, cond_false, List.append_nil] at e
     simp only [← e]
     exact ⟨k + 1, by omega, by omega, ⟨⟨rfl, rfl⟩, zF, zB, zN, zX⟩⟩)
 replace hc := of_decide_eq_false hc
 obtain rfl : k = x.well.length := by omega
 rw [umx hp]
 refine c7 ?_
 refine K39 _ ?_
 refine yS fun _ K47 => ?_
 refine ra 14 (lst (dj p.text x)) rfl Wk.tok ?_
 refine yR ?_
 refine yM rfl rfl ?_
 try dsimp only [St.put]
 refine af rfl (th rfl rfl rfl (umj (dj p.text x) hB (by omega) _ _) ?_)
 refine yA rfl rfl ?_
 refine yN ?_
 dsimp only [St.put]
 refine K47 _ ?_
 refine yS fun _ K48 => ?_
 refine yS fun _ K49 => ?_
 refine yR ?_
 refine yM rfl rfl ?_
 try dsimp only [St.put]
 refine af rfl (uec rfl rfl zG fun r β cl ks hnd hks0 hinj => ?_)
 refine yN ?_
 dsimp only [St.put]
 refine K49 _ ?_
 rw [hmw] at hks0
 rw [hmw]
 refine bg ?_
 refine ct 91 ?_
 refine zQ ?_
 refine dd (ak (ak (ak (ak G nx (n4 Tryz.prog 61 (x.found.length + x.well.length) (gz (gm x.found x.well)) β cl)) (nx + 1 + 1) (.arr 0 0 61 3 (dj p.text x).length (dq (dj p.text x)))) (nx + 1 + 1 + 1) (.raw 0 (.mapIter (some r) cl (jf β ([] : List PlaceD)) cl))) (nx + 1 + 1 + 1 + 1) (.fact (.map (some r)) (.map nx))) zX ?_
 dsimp only
 refine dc (X := List PlaceD × Nat × Nat × Nat) (fun y => (∀ z ∈ y.1, z ∈ ks) ∧ y.1.Nodup) (fun y => sv ks y.1) (fun y => [(17, .own (nx + 1 + 1) y.2.2.1 (dj p.text x ++ y.1).length), (18, .any)]) (fun y G' => (ak (ak (ak (ak G nx (n4 Tryz.prog 61 ((x.found.length + x.well.length)) (gz ((gm x.found x.well))) β cl)) ((nx + 1 + 1)) (.arr y.2.2.1 y.2.2.2 61 3 ((dj p.text x ++ y.1)).length (dq ((dj p.text x ++ y.1))))) ((nx + 1 + 1 + 1)) (.raw y.2.1 (.mapIter (some r) cl (jf β y.1) cl))) ((nx + 1 + 1 + 1 + 1)) (.fact (.map (some r)) (.map nx)))) ([], 0, 0, 0) rfl ?_ ?_ ?_ ?_ ?_ ?_
 ·exact ⟨fun z hz => by simp at hz, List.nodup_nil⟩
 ·simp only [List.append_nil]
  exact zF
 ·simp only [List.append_nil]
  exact zX
 ·rintro ⟨done, wi, vl, wv⟩ hI
  exact (by (try dsimp only); repeat' (first | exact trivial | refine ⟨?_, ?_⟩ | exact .v | exact .any | refine .elem ?_ | exact ca _ _ | exact fq _ _ | exact el _ _ | exact fy _ (by (try dsimp only); omega) | exact .box (by (try dsimp only); omega) | exact fk | exact dn | exact vr (mw _ _) | exact fe _ | refine ga ?_ ?_ | exact .arr (by (try dsimp only); omega) | exact .own (by (try dsimp only); omega) | exact .map (by (try dsimp only); omega) | exact fe _ | refine co ?_ ?_ | exact ca _ _))
 ·rintro ⟨done, wi, vl, wv⟩ hI
  exact (by (repeat' (refine la ?_ (by (try dsimp only); omega) ?_)); all_goals (first | exact ld zS | (repeat' (first | exact trivial | refine ⟨?_, ?_⟩ | exact .v | exact .any | refine .elem ?_ | exact ca _ _ | exact fq _ _ | exact el _ _ | exact fy _ (by (try dsimp only); omega) | exact .box (by (try dsimp only); omega) | exact fk | exact dn | exact vr (mw _ _) | exact fe _ | refine ga ?_ ?_ | exact .arr (by (try dsimp only); omega) | exact .own (by (try dsimp only); omega) | exact .map (by (try dsimp only); omega) | exact fe _ | refine co ?_ ?_ | exact ca _ _))))
 rintro ⟨done, wi, vl, wv⟩ hI8
 dsimp only at hI8 ⊢
 refine yS fun _ K50 => ?_
 refine yR ?_
 try dsimp only [St.put]
 refine af rfl (ued (done := done) rfl rfl zG zG zG (hks0) (hinj) (hI8.1) (fun hend => ?_) (fun y c hym hyk hyd => ?_))
 ·have hdl := ut hp hI8.2 (fun q hq => onceM_ne.1 ((hks0 q).2 (hI8.1 q hq)))
  have hdk : ∀ q, q ∈ done ↔ gm x.found x.well q = true := fun q => ⟨fun hq => onceM_ne.1 ((hks0 q).2 (hI8.1 q hq)), fun hq => hend q ((hks0 q).1 (onceM_ne.2 hq))⟩
  have hpb := ub0 hp ht (fun q hq => (hdk q).1 hq)
  refine yX rfl rfl rfl rfl ?_
  refine yN ?_
  dsimp only [St.put]
  refine K50 _ ?_
  refine yS fun _ K51 => ?_
  refine av rfl (fun h => by cases h) (fun _ => ?_)
  refine c7 ?_
  refine K48 _ ?_
  refine yS fun _ K52 => ?_
  have hpb2 : ∀ y ∈ dj p.text x ++ done, PBd9 y := fun y hy => by
   rcases List.mem_append.1 hy with hy | hy
   ·exact umy hp ht hy
   exact hpb y hy
  refine yR ?_
  refine yM rfl rfl ?_
  try dsimp only [St.put]
  refine af rfl (ueb uaq PBd9 lm rfl rfl rfl rfl zG rfl rfl rfl (fun y hy => hy.plain) hpb2 (by first | (rw [List.length_append]; omega) | (simp only [List.nil_append]; omega)) (fun a b _ _ => xu a b _ _) uby (fun ys hperm hsort => ?_))
  refine yN ?_
  dsimp only [St.put]
  have hlen := hperm.length_eq
  obtain rfl := ufc hp hI8.2 hdk hperm hsort
  refine K52 _ ?_
  refine v8 17 (cr p.text x) rfl zG rfl rfl hlen.symm ?_
  dsimp only
  refine ue6 [(0, none), (1, none), (2, none), (3, none), (4, none), (5, none), (6, none), (7, none), (10, none), (11, none), (12, none), (13, none), (14, none), (17, none), (18, none), (19, none), (20, none), (21, none)] (fun i => [23, 26, 29, 32].contains i) (fun i => [0, 1, 2, 3, 4, 5, 7, 10, 11, 12, 14, 17, 18, 19, 21].contains i) 15 (rl [8, 2, 5, 2, 5, 11]) [nB] (by kernel_rfl) (by kernel_rfl) ?_
  refine xM rfl rfl rfl rfl rfl ?_
  refine xM rfl rfl rfl rfl rfl ?_
  refine xM rfl rfl rfl rfl rfl ?_
  refine xM rfl rfl rfl rfl rfl ?_
  refine ae rfl rfl rfl rfl (ce rfl rfl) ?_
  refine ae rfl rfl rfl rfl (bk rfl rfl) ?_
  try dsimp only [St.put]
  refine bd rfl rfl rfl rfl (fu rfl rfl zG (by simp) (by first | rfl | assumption)) ?_
  refine xM rfl rfl rfl rfl rfl ?_
  refine xM rfl rfl rfl rfl rfl ?_
  refine ae rfl rfl rfl rfl (ce rfl rfl) ?_
  refine ae rfl rfl rfl rfl (bk rfl rfl) ?_
  try dsimp only [St.put]
  refine bd rfl rfl rfl rfl (fu rfl rfl zG (by simp) (by first | rfl | assumption)) ?_
  refine xM rfl rfl rfl rfl rfl ?_
  refine xM rfl rfl rfl rfl rfl ?_
  refine ae rfl rfl rfl rfl (ce rfl rfl) ?_
  refine ae rfl rfl rfl rfl (bk rfl rfl) ?_
  try dsimp only [St.put]
  refine bd rfl rfl rfl rfl (fu rfl rfl zG (by simp) (by first | rfl | assumption)) ?_
  refine xM rfl rfl rfl rfl rfl ?_
  refine az ⟨zD, ?_⟩
  refine ar [8, 15, 22] (by kernel_rfl) (by simp) ?_
  refine am ?_ ?_
  ·try dsimp only [St.put]
   refine cb rfl rfl rfl (b9 rfl rfl rfl (by decide) (by decide) zR (by decide) ⟨zD, ?_⟩)
   refine ar [9, 15, 22] (by kernel_rfl) (by simp) ?_
   refine am ?_ ?_
   ·try dsimp only [St.put]
    refine cb rfl rfl rfl (cg ([(dm p.text x : Int)]) rfl rfl zG zE rfl rfl zA ⟨zD, ?_⟩ zA)
    refine ar [15, 22] (by kernel_rfl) (by simp) ?_
    refine am ?_ ?_
    ·try dsimp only [St.put]
     refine cb rfl rfl rfl (b9 rfl rfl rfl (by decide) (by decide) zR (by decide) ⟨zD, ?_⟩)
     refine ar [16, 22] (by kernel_rfl) (by simp) ?_
     refine am ?_ ?_
     ·try dsimp only [St.put]
      refine cb rfl rfl rfl (cg ([cr p.text x]) rfl rfl zG zE rfl rfl zA ⟨zD, ?_⟩ zA)
      refine ar [22] (by kernel_rfl) (by simp) ?_
      refine am ?_ ?_
      ·try dsimp only [St.put]
       refine cb rfl rfl rfl (b9 rfl rfl rfl (by decide) (by decide) zR (by decide) ⟨zD, ?_⟩)
       refine ar [23] (by kernel_rfl) (by simp) ?_
       refine am ?_ ?_
       ·try dsimp only [St.put]
        refine bq rfl rfl rfl rfl (cg ([dj p.text x]) rfl rfl zG zE rfl rfl zA ?_ zA)
        refine cn [(24, none), (25, none)] 7 (rl [26, 7]) (by kernel_rfl) ?_
        refine ae rfl rfl rfl rfl (ce rfl rfl) ?_
        refine ae rfl rfl rfl rfl (bk rfl rfl) ?_
        refine az ⟨zD, ?_⟩
        refine ar [26] (by kernel_rfl) (by simp) ?_
        refine am ?_ ?_
        ·try dsimp only [St.put]
         refine bq rfl rfl rfl rfl (cd rfl rfl rfl zG (by constructor) rfl zO ?_)
         refine cn [(27, none), (28, none)] 4 (rl [29, 4]) (by kernel_rfl) ?_
         refine ae rfl rfl rfl rfl (ce rfl rfl) ?_
         refine ae rfl rfl rfl rfl (bk rfl rfl) ?_
         refine az ⟨zD, ?_⟩
         refine ar [29] (by kernel_rfl) (by simp) ?_
         refine am ?_ ?_
         ·try dsimp only [St.put]
          refine bq rfl rfl rfl rfl (cd rfl rfl rfl zG (by constructor) rfl zO ?_)
          refine cn [(30, none), (31, none)] 1 (rl [32, 1]) (by kernel_rfl) ?_
          refine ae rfl rfl rfl rfl (ce rfl rfl) ?_
          refine ae rfl rfl rfl rfl (bk rfl rfl) ?_
          refine az ⟨zD, ?_⟩
          refine ar [32] (by kernel_rfl) (by simp) ?_
          refine am ?_ ?_
          ·try dsimp only [St.put]
           refine bq rfl rfl rfl rfl (cd rfl rfl rfl zG (by constructor) rfl zO ?_)
           dsimp only [St.put]
           refine gq (by kernel_rfl) ?_
           refine gp rfl (.inl rfl) zN (gk zG zG zG zG fun n o q1 q2 q3 q4 h => ?_)
           have hn := hlt n o h
           (try dsimp only)
           repeat (first | exact h | rw [eu (by omega)] | rw [e9 (by omega)])
          exact aq
         exact aq
        exact aq
       exact aq
      exact aq
     refine am ?_ ?_
     ·try dsimp only [St.put]
      refine cb rfl rfl rfl (b9 rfl rfl rfl (by decide) (by decide) zR (by decide) ⟨zD, ?_⟩)
      refine ar [16] (by kernel_rfl) (by simp) ?_
      refine am ?_ ?_
      ·try dsimp only [St.put]
       refine cb rfl rfl rfl (cg ([cr p.text x]) rfl rfl zG zE rfl rfl zA ⟨zD, ?_⟩ zA)
       refine ar [23] (by kernel_rfl) (by simp) ?_
       refine am ?_ ?_
       ·try dsimp only [St.put]
        refine bq rfl rfl rfl rfl (cg ([dj p.text x]) rfl rfl zG zE rfl rfl zA ?_ zA)
        refine cn [(24, none), (25, none)] 7 (rl [26, 7]) (by kernel_rfl) ?_
        refine ae rfl rfl rfl rfl (ce rfl rfl) ?_
        refine ae rfl rfl rfl rfl (bk rfl rfl) ?_
        refine az ⟨zD, ?_⟩
        refine ar [26] (by kernel_rfl) (by simp) ?_
        refine am ?_ ?_
        ·try dsimp only [St.put]
         refine bq rfl rfl rfl rfl (cd rfl rfl rfl zG (by constructor) rfl zO ?_)
         refine cn [(27, none), (28, none)] 4 (rl [29, 4]) (by kernel_rfl) ?_
         refine ae rfl rfl rfl rfl (ce rfl rfl) ?_
         refine ae rfl rfl rfl rfl (bk rfl rfl) ?_
         refine az ⟨zD, ?_⟩
         refine ar [29] (by kernel_rfl) (by simp) ?_
         refine am ?_ ?_
         ·try dsimp only [St.put]
          refine bq rfl rfl rfl rfl (cd rfl rfl rfl zG (by constructor) rfl zO ?_)
          refine cn [(30, none), (31, none)] 1 (rl [32, 1]) (by kernel_rfl) ?_
          refine ae rfl rfl rfl rfl (ce rfl rfl) ?_
          refine ae rfl rfl rfl rfl (bk rfl rfl) ?_
          refine az ⟨zD, ?_⟩
          refine ar [32] (by kernel_rfl) (by simp) ?_
          refine am ?_ ?_
          ·try dsimp only [St.put]
           refine bq rfl rfl rfl rfl (cd rfl rfl rfl zG (by constructor) rfl zO ?_)
           dsimp only [St.put]
           refine gq (by kernel_rfl) ?_
           refine gp rfl (.inl rfl) zN (gk zG zG zG zG fun n o q1 q2 q3 q4 h => ?_)
           have hn := hlt n o h
           (try dsimp only)
           repeat (first | exact h | rw [eu (by omega)] | rw [e9 (by omega)])
          exact aq
         exact aq
        exact aq
       exact aq
      exact aq
     exact aq
    refine am ?_ ?_
    ·try dsimp only [St.put]
     refine cb rfl rfl rfl (b9 rfl rfl rfl (by decide) (by decide) zR (by decide) ⟨zD, ?_⟩)
     refine ar [15] (by kernel_rfl) (by simp) ?_
     refine am ?_ ?_
     ·try dsimp only [St.put]
      refine cb rfl rfl rfl (b9 rfl rfl rfl (by decide) (by decide) zR (by decide) ⟨zD, ?_⟩)
      refine ar [16] (by kernel_rfl) (by simp) ?_
      refine am ?_ ?_
      ·try dsimp only [St.put]
       refine cb rfl rfl rfl (cg ([cr p.text x]) rfl rfl zG zE rfl rfl zA ⟨zD, ?_⟩ zA)
       refine ar [23] (by kernel_rfl) (by simp) ?_
       refine am ?_ ?_
       ·try dsimp only [St.put]
        refine bq rfl rfl rfl rfl (cg ([dj p.text x]) rfl rfl zG zE rfl rfl zA ?_ zA)
        refine cn [(24, none), (25, none)] 7 (rl [26, 7]) (by kernel_rfl) ?_
        refine ae rfl rfl rfl rfl (ce rfl rfl) ?_
        refine ae rfl rfl rfl rfl (bk rfl rfl) ?_
        refine az ⟨zD, ?_⟩
        refine ar [26] (by kernel_rfl) (by simp) ?_
        refine am ?_ ?_
        ·try dsimp only [St.put]
         refine bq rfl rfl rfl rfl (cd rfl rfl rfl zG (by constructor) rfl zO ?_)
         refine cn [(27, none), (28, none)] 4 (rl [29, 4]) (by kernel_rfl) ?_
         refine ae rfl rfl rfl rfl (ce rfl rfl) ?_
         refine ae rfl rfl rfl rfl (bk rfl rfl) ?_
         refine az ⟨zD, ?_⟩
         refine ar [29] (by kernel_rfl) (by simp) ?_
         refine am ?_ ?_
         ·try dsimp only [St.put]
          refine bq rfl rfl rfl rfl (cd rfl rfl rfl zG (by constructor) rfl zO ?_)
          refine cn [(30, none), (31, none)] 1 (rl [32, 1]) (by kernel_rfl) ?_
          refine ae rfl rfl rfl rfl (ce rfl rfl) ?_
          refine ae rfl rfl rfl rfl (bk rfl rfl) ?_
          refine az ⟨zD, ?_⟩
          refine ar [32] (by kernel_rfl) (by simp) ?_
          refine am ?_ ?_
          ·try dsimp only [St.put]
           refine bq rfl rfl rfl rfl (cd rfl rfl rfl zG (by constructor) rfl zO ?_)
           dsimp only [St.put]
           refine gq (by kernel_rfl) ?_
           refine gp rfl (.inl rfl) zN (gk zG zG zG zG fun n o q1 q2 q3 q4 h => ?_)
           have hn := hlt n o h
           (try dsimp only)
           repeat (first | exact h | rw [eu (by omega)] | rw [e9 (by omega)])
          exact aq
         exact aq
        exact aq
       exact aq
      exact aq
     exact aq
    exact aq
   refine am ?_ ?_
   ·try dsimp only [St.put]
    refine cb rfl rfl rfl (b9 rfl rfl rfl (by decide) (by decide) zR (by decide) ⟨zD, ?_⟩)
    refine ar [9, 22] (by kernel_rfl) (by simp) ?_
    refine am ?_ ?_
    ·try dsimp only [St.put]
     refine cb rfl rfl rfl (cg ([(dm p.text x : Int)]) rfl rfl zG zE rfl rfl zA ⟨zD, ?_⟩ zA)
     refine ar [16, 22] (by kernel_rfl) (by simp) ?_
     refine am ?_ ?_
     ·try dsimp only [St.put]
      refine cb rfl rfl rfl (cg ([cr p.text x]) rfl rfl zG zE rfl rfl zA ⟨zD, ?_⟩ zA)
      refine ar [22] (by kernel_rfl) (by simp) ?_
      refine am ?_ ?_
      ·try dsimp only [St.put]
       refine cb rfl rfl rfl (b9 rfl rfl rfl (by decide) (by decide) zR (by decide) ⟨zD, ?_⟩)
       refine ar [23] (by kernel_rfl) (by simp) ?_
       refine am ?_ ?_
       ·try dsimp only [St.put]
        refine bq rfl rfl rfl rfl (cg ([dj p.text x]) rfl rfl zG zE rfl rfl zA ?_ zA)
        refine cn [(24, none), (25, none)] 7 (rl [26, 7]) (by kernel_rfl) ?_
        refine ae rfl rfl rfl rfl (ce rfl rfl) ?_
        refine ae rfl rfl rfl rfl (bk rfl rfl) ?_
        refine az ⟨zD, ?_⟩
        refine ar [26] (by kernel_rfl) (by simp) ?_
        refine am ?_ ?_
        ·try dsimp only [St.put]
         refine bq rfl rfl rfl rfl (cd rfl rfl rfl zG (by constructor) rfl zO ?_)
         refine cn [(27, none), (28, none)] 4 (rl [29, 4]) (by kernel_rfl) ?_
         refine ae rfl rfl rfl rfl (ce rfl rfl) ?_
         refine ae rfl rfl rfl rfl (bk rfl rfl) ?_
         refine az ⟨zD, ?_⟩
         refine ar [29] (by kernel_rfl) (by simp) ?_
         refine am ?_ ?_
         ·try dsimp only [St.put]
          refine bq rfl rfl rfl rfl (cd rfl rfl rfl zG (by constructor) rfl zO ?_)
          refine cn [(30, none), (31, none)] 1 (rl [32, 1]) (by kernel_rfl) ?_
          refine ae rfl rfl rfl rfl (ce rfl rfl) ?_
          refine ae rfl rfl rfl rfl (bk rfl rfl) ?_
          refine az ⟨zD, ?_⟩
          refine ar [32] (by kernel_rfl) (by simp) ?_
          refine am ?_ ?_
          ·try dsimp only [St.put]
           refine bq rfl rfl rfl rfl (cd rfl rfl rfl zG (by constructor) rfl zO ?_)
           dsimp only [St.put]
           refine gq (by kernel_rfl) ?_
           refine gp rfl (.inl rfl) zN (gk zG zG zG zG fun n o q1 q2 q3 q4 h => ?_)
           have hn := hlt n o h
           (try dsimp only)
           repeat (first | exact h | rw [eu (by omega)] | rw [e9 (by omega)])
          exact aq
         exact aq
        exact aq
       exact aq
      exact aq
     refine am ?_ ?_
     ·try dsimp only [St.put]
      refine cb rfl rfl rfl (b9 rfl rfl rfl (by decide) (by decide) zR (by decide) ⟨zD, ?_⟩)
      refine ar [16] (by kernel_rfl) (by simp) ?_
      refine am ?_ ?_
      ·try dsimp only [St.put]
       refine cb rfl rfl rfl (cg ([cr p.text x]) rfl rfl zG zE rfl rfl zA ⟨zD, ?_⟩ zA)
       refine ar [23] (by kernel_rfl) (by simp) ?_
       refine am ?_ ?_
       ·try dsimp only [St.put]
        refine bq rfl rfl rfl rfl (cg ([dj p.text x]) rfl rfl zG zE rfl rfl zA ?_ zA)
        refine cn [(24, none), (25, none)] 7 (rl [26, 7]) (by kernel_rfl) ?_
        refine ae rfl rfl rfl rfl (ce rfl rfl) ?_
        refine ae rfl rfl rfl rfl (bk rfl rfl) ?_
        refine az ⟨zD, ?_⟩
        refine ar [26] (by kernel_rfl) (by simp) ?_
        refine am ?_ ?_
        ·try dsimp only [St.put]
         refine bq rfl rfl rfl rfl (cd rfl rfl rfl zG (by constructor) rfl zO ?_)
         refine cn [(27, none), (28, none)] 4 (rl [29, 4]) (by kernel_rfl) ?_
         refine ae rfl rfl rfl rfl (ce rfl rfl) ?_
         refine ae rfl rfl rfl rfl (bk rfl rfl) ?_
         refine az ⟨zD, ?_⟩
         refine ar [29] (by kernel_rfl) (by simp) ?_
         refine am ?_ ?_
         ·try dsimp only [St.put]
          refine bq rfl rfl rfl rfl (cd rfl rfl rfl zG (by constructor) rfl zO ?_)
          refine cn [(30, none), (31, none)] 1 (rl [32, 1]) (by kernel_rfl) ?_
          refine ae rfl rfl rfl rfl (ce rfl rfl) ?_
          refine ae rfl rfl rfl rfl (bk rfl rfl) ?_
          refine az ⟨zD, ?_⟩
          refine ar [32] (by kernel_rfl) (by simp) ?_
          refine am ?_ ?_
          ·try dsimp only [St.put]
           refine bq rfl rfl rfl rfl (cd rfl rfl rfl zG (by constructor) rfl zO ?_)
           dsimp only [St.put]
           refine gq (by kernel_rfl) ?_
           refine gp rfl (.inl rfl) zN (gk zG zG zG zG fun n o q1 q2 q3 q4 h => ?_)
           have hn := hlt n o h
           (try dsimp only)
           repeat (first | exact h | rw [eu (by omega)] | rw [e9 (by omega)])
          exact aq
         exact aq
        exact aq
       exact aq
      exact aq
     exact aq
    refine am ?_ ?_
    ·try dsimp only [St.put]
     refine cb rfl rfl rfl (b9 rfl rfl rfl (by decide) (by decide) zR (by decide) ⟨zD, ?_⟩)
     refine ar [9] (by kernel_rfl) (by simp) ?_
     refine am ?_ ?_
     ·try dsimp only [St.put]
      refine cb rfl rfl rfl (cg ([(dm p.text x : Int)]) rfl rfl zG zE rfl rfl zA ⟨zD, ?_⟩ zA)
      refine ar [16] (by kernel_rfl) (by simp) ?_
      refine am ?_ ?_
      ·try dsimp only [St.put]
       refine cb rfl rfl rfl (cg ([cr p.text x]) rfl rfl zG zE rfl rfl zA ⟨zD, ?_⟩ zA)
       refine ar [23] (by kernel_rfl) (by simp) ?_
       refine am ?_ ?_
       ·try dsimp only [St.put]
        refine bq rfl rfl rfl rfl (cg ([dj p.text x]) rfl rfl zG zE rfl rfl zA ?_ zA)
        refine cn [(24, none), (25, none)] 7 (rl [26, 7]) (by kernel_rfl) ?_
        refine ae rfl rfl rfl rfl (ce rfl rfl) ?_
        refine ae rfl rfl rfl rfl (bk rfl rfl) ?_
        refine az ⟨zD, ?_⟩
        refine ar [26] (by kernel_rfl) (by simp) ?_
        refine am ?_ ?_
        ·try dsimp only [St.put]
         refine bq rfl rfl rfl rfl (cd rfl rfl rfl zG (by constructor) rfl zO ?_)
         refine cn [(27, none), (28, none)] 4 (rl [29, 4]) (by kernel_rfl) ?_
         refine ae rfl rfl rfl rfl (ce rfl rfl) ?_
         refine ae rfl rfl rfl rfl (bk rfl rfl) ?_
         refine az ⟨zD, ?_⟩
         refine ar [29] (by kernel_rfl) (by simp) ?_
         refine am ?_ ?_
         ·try dsimp only [St.put]
          refine bq rfl rfl rfl rfl (cd rfl rfl rfl zG (by constructor) rfl zO ?_)
          refine cn [(30, none), (31, none)] 1 (rl [32, 1]) (by kernel_rfl) ?_
          refine ae rfl rfl rfl rfl (ce rfl rfl) ?_
          refine ae rfl rfl rfl rfl (bk rfl rfl) ?_
          refine az ⟨zD, ?_⟩
          refine ar [32] (by kernel_rfl) (by simp) ?_
          refine am ?_ ?_
          ·try dsimp only [St.put]
           refine bq rfl rfl rfl rfl (cd rfl rfl rfl zG (by constructor) rfl zO ?_)
           dsimp only [St.put]
           refine gq (by kernel_rfl) ?_
           refine gp rfl (.inl rfl) zN (gk zG zG zG zG fun n o q1 q2 q3 q4 h => ?_)
           have hn := hlt n o h
           (try dsimp only)
           repeat (first | exact h | rw [eu (by omega)] | rw [e9 (by omega)])
          exact aq
         exact aq
        exact aq
       exact aq
      exact aq
     exact aq
    exact aq
   refine am ?_ ?_
   ·try dsimp only [St.put]
    refine cb rfl rfl rfl (b9 rfl rfl rfl (by decide) (by decide) zR (by decide) ⟨zD, ?_⟩)
    refine ar [9, 15] (by kernel_rfl) (by simp) ?_
    refine am ?_ ?_
    ·try dsimp only [St.put]
     refine cb rfl rfl rfl (cg ([(dm p.text x : Int)]) rfl rfl zG zE rfl rfl zA ⟨zD, ?_⟩ zA)
     refine ar [15] (by kernel_rfl) (by simp) ?_
     refine am ?_ ?_
     ·try dsimp only [St.put]
      refine cb rfl rfl rfl (b9 rfl rfl rfl (by decide) (by decide) zR (by decide) ⟨zD, ?_⟩)
      refine ar [16] (by kernel_rfl) (by simp) ?_
      refine am ?_ ?_
      ·try dsimp only [St.put]
       refine cb rfl rfl rfl (cg ([cr p.text x]) rfl rfl zG zE rfl rfl zA ⟨zD, ?_⟩ zA)
       refine ar [23] (by kernel_rfl) (by simp) ?_
       refine am ?_ ?_
       ·try dsimp only [St.put]
        refine bq rfl rfl rfl rfl (cg ([dj p.text x]) rfl rfl zG zE rfl rfl zA ?_ zA)
        refine cn [(24, none), (25, none)] 7 (rl [26, 7]) (by kernel_rfl) ?_
        refine ae rfl rfl rfl rfl (ce rfl rfl) ?_
        refine ae rfl rfl rfl rfl (bk rfl rfl) ?_
        refine az ⟨zD, ?_⟩
        refine ar [26] (by kernel_rfl) (by simp) ?_
        refine am ?_ ?_
        ·try dsimp only [St.put]
         refine bq rfl rfl rfl rfl (cd rfl rfl rfl zG (by constructor) rfl zO ?_)
         refine cn [(27, none), (28, none)] 4 (rl [29, 4]) (by kernel_rfl) ?_
         refine ae rfl rfl rfl rfl (ce rfl rfl) ?_
         refine ae rfl rfl rfl rfl (bk rfl rfl) ?_
         refine az ⟨zD, ?_⟩
         refine ar [29] (by kernel_rfl) (by simp) ?_
         refine am ?_ ?_
         ·try dsimp only [St.put]
          refine bq rfl rfl rfl rfl (cd rfl rfl rfl zG (by constructor) rfl zO ?_)
          refine cn [(30, none), (31, none)] 1 (rl [32, 1]) (by kernel_rfl) ?_
          refine ae rfl rfl rfl rfl (ce rfl rfl) ?_
          refine ae rfl rfl rfl rfl (bk rfl rfl) ?_
          refine az ⟨zD, ?_⟩
          refine ar [32] (by kernel_rfl) (by simp) ?_
          refine am ?_ ?_
          ·try dsimp only [St.put]
           refine bq rfl rfl rfl rfl (cd rfl rfl rfl zG (by constructor) rfl zO ?_)
           dsimp only [St.put]
           refine gq (by kernel_rfl) ?_
           refine gp rfl (.inl rfl) zN (gk zG zG zG zG fun n o q1 q2 q3 q4 h => ?_)
           have hn := hlt n o h
           (try dsimp only)
           repeat (first | exact h | rw [eu (by omega)] | rw [e9 (by omega)])
          exact aq
         exact aq
        exact aq
       exact aq
      exact aq
     exact aq
    refine am ?_ ?_
    ·try dsimp only [St.put]
     refine cb rfl rfl rfl (b9 rfl rfl rfl (by decide) (by decide) zR (by decide) ⟨zD, ?_⟩)
     refine ar [9] (by kernel_rfl) (by simp) ?_
     refine am ?_ ?_
     ·try dsimp only [St.put]
      refine cb rfl rfl rfl (cg ([(dm p.text x : Int)]) rfl rfl zG zE rfl rfl zA ⟨zD, ?_⟩ zA)
      refine ar [16] (by kernel_rfl) (by simp) ?_
      refine am ?_ ?_
      ·try dsimp only [St.put]
       refine cb rfl rfl rfl (cg ([cr p.text x]) rfl rfl zG zE rfl rfl zA ⟨zD, ?_⟩ zA)
       refine ar [23] (by kernel_rfl) (by simp) ?_
       refine am ?_ ?_
       ·try dsimp only [St.put]
        refine bq rfl rfl rfl rfl (cg ([dj p.text x]) rfl rfl zG zE rfl rfl zA ?_ zA)
        refine cn [(24, none), (25, none)] 7 (rl [26, 7]) (by kernel_rfl) ?_
        refine ae rfl rfl rfl rfl (ce rfl rfl) ?_
        refine ae rfl rfl rfl rfl (bk rfl rfl) ?_
        refine az ⟨zD, ?_⟩
        refine ar [26] (by kernel_rfl) (by simp) ?_
        refine am ?_ ?_
        ·try dsimp only [St.put]
         refine bq rfl rfl rfl rfl (cd rfl rfl rfl zG (by constructor) rfl zO ?_)
         refine cn [(27, none), (28, none)] 4 (rl [29, 4]) (by kernel_rfl) ?_
         refine ae rfl rfl rfl rfl (ce rfl rfl) ?_
         refine ae rfl rfl rfl rfl (bk rfl rfl) ?_
         refine az ⟨zD, ?_⟩
         refine ar [29] (by kernel_rfl) (by simp) ?_
         refine am ?_ ?_
         ·try dsimp only [St.put]
          refine bq rfl rfl rfl rfl (cd rfl rfl rfl zG (by constructor) rfl zO ?_)
          refine cn [(30, none), (31, none)] 1 (rl [32, 1]) (by kernel_rfl) ?_
          refine ae rfl rfl rfl rfl (ce rfl rfl) ?_
          refine ae rfl rfl rfl rfl (bk rfl rfl) ?_
          refine az ⟨zD, ?_⟩
          refine ar [32] (by kernel_rfl) (by simp) ?_
          refine am ?_ ?_
          ·try dsimp only [St.put]
           refine bq rfl rfl rfl rfl (cd rfl rfl rfl zG (by constructor) rfl zO ?_)
           dsimp only [St.put]
           refine gq (by kernel_rfl) ?_
           refine gp rfl (.inl rfl) zN (gk zG zG zG zG fun n o q1 q2 q3 q4 h => ?_)
           have hn := hlt n o h
           (try dsimp only)
           repeat (first | exact h | rw [eu (by omega)] | rw [e9 (by omega)])
          exact aq
         exact aq
        exact aq
       exact aq
      exact aq
     exact aq
    exact aq
   exact aq
  refine am ?_ ?_
  ·try dsimp only [St.put]
   refine cb rfl rfl rfl (b9 rfl rfl rfl (by decide) (by decide) zR (by decide) ⟨zD, ?_⟩)
   refine ar [8, 22] (by kernel_rfl) (by simp) ?_
   refine am ?_ ?_
   ·try dsimp only [St.put]
    refine cb rfl rfl rfl (b9 rfl rfl rfl (by decide) (by decide) zR (by decide) ⟨zD, ?_⟩)
    refine ar [9, 22] (by kernel_rfl) (by simp) ?_
    refine am ?_ ?_
    ·try dsimp only [St.put]
     refine cb rfl rfl rfl (cg ([(dm p.text x : Int)]) rfl rfl zG zE rfl rfl zA ⟨zD, ?_⟩ zA)
     refine ar [16, 22] (by kernel_rfl) (by simp) ?_
     refine am ?_ ?_
     ·try dsimp only [St.put]
      refine cb rfl rfl rfl (cg ([cr p.text x]) rfl rfl zG zE rfl rfl zA ⟨zD, ?_⟩ zA)
      refine ar [22] (by kernel_rfl) (by simp) ?_
      refine am ?_ ?_
      ·try dsimp only [St.put]
       refine cb rfl rfl rfl (b9 rfl rfl rfl (by decide) (by decide) zR (by decide) ⟨zD, ?_⟩)
       refine ar [23] (by kernel_rfl) (by simp) ?_
       refine am ?_ ?_
       ·try dsimp only [St.put]
        refine bq rfl rfl rfl rfl (cg ([dj p.text x]) rfl rfl zG zE rfl rfl zA ?_ zA)
        refine cn [(24, none), (25, none)] 7 (rl [26, 7]) (by kernel_rfl) ?_
        refine ae rfl rfl rfl rfl (ce rfl rfl) ?_
        refine ae rfl rfl rfl rfl (bk rfl rfl) ?_
        refine az ⟨zD, ?_⟩
        refine ar [26] (by kernel_rfl) (by simp) ?_
        refine am ?_ ?_
        ·try dsimp only [St.put]
         refine bq rfl rfl rfl rfl (cd rfl rfl rfl zG (by constructor) rfl zO ?_)
         refine cn [(27, none), (28, none)] 4 (rl [29, 4]) (by kernel_rfl) ?_
         refine ae rfl rfl rfl rfl (ce rfl rfl) ?_
         refine ae rfl rfl rfl rfl (bk rfl rfl) ?_
         refine az ⟨zD, ?_⟩
         refine ar [29] (by kernel_rfl) (by simp) ?_
         refine am ?_ ?_
         ·try dsimp only [St.put]
          refine bq rfl rfl rfl rfl (cd rfl rfl rfl zG (by constructor) rfl zO ?_)
          refine cn [(30, none), (31, none)] 1 (rl [32, 1]) (by kernel_rfl) ?_
          refine ae rfl rfl rfl rfl (ce rfl rfl) ?_
          refine ae rfl rfl rfl rfl (bk rfl rfl) ?_
          refine az ⟨zD, ?_⟩
          refine ar [32] (by kernel_rfl) (by simp) ?_
          refine am ?_ ?_
          ·try dsimp only [St.put]
           refine bq rfl rfl rfl rfl (cd rfl rfl rfl zG (by constructor) rfl zO ?_)
           dsimp only [St.put]
           refine gq (by kernel_rfl) ?_
           refine gp rfl (.inl rfl) zN (gk zG zG zG zG fun n o q1 q2 q3 q4 h => ?_)
           have hn := hlt n o h
           (try dsimp only)
           repeat (first | exact h | rw [eu (by omega)] | rw [e9 (by omega)])
          exact aq
         exact aq
        exact aq
       exact aq
      exact aq
     refine am ?_ ?_
     ·try dsimp only [St.put]
      refine cb rfl rfl rfl (b9 rfl rfl rfl (by decide) (by decide) zR (by decide) ⟨zD, ?_⟩)
      refine ar [16] (by kernel_rfl) (by simp) ?_
      refine am ?_ ?_
      ·try dsimp only [St.put]
       refine cb rfl rfl rfl (cg ([cr p.text x]) rfl rfl zG zE rfl rfl zA ⟨zD, ?_⟩ zA)
       refine ar [23] (by kernel_rfl) (by simp) ?_
       refine am ?_ ?_
       ·try dsimp only [St.put]
        refine bq rfl rfl rfl rfl (cg ([dj p.text x]) rfl rfl zG zE rfl rfl zA ?_ zA)
        refine cn [(24, none), (25, none)] 7 (rl [26, 7]) (by kernel_rfl) ?_
        refine ae rfl rfl rfl rfl (ce rfl rfl) ?_
        refine ae rfl rfl rfl rfl (bk rfl rfl) ?_
        refine az ⟨zD, ?_⟩
        refine ar [26] (by kernel_rfl) (by simp) ?_
        refine am ?_ ?_
        ·try dsimp only [St.put]
         refine bq rfl rfl rfl rfl (cd rfl rfl rfl zG (by constructor) rfl zO ?_)
         refine cn [(27, none), (28, none)] 4 (rl [29, 4]) (by kernel_rfl) ?_
         refine ae rfl rfl rfl rfl (ce rfl rfl) ?_
         refine ae rfl rfl rfl rfl (bk rfl rfl) ?_
         refine az ⟨zD, ?_⟩
         refine ar [29] (by kernel_rfl) (by simp) ?_
         refine am ?_ ?_
         ·try dsimp only [St.put]
          refine bq rfl rfl rfl rfl (cd rfl rfl rfl zG (by constructor) rfl zO ?_)
          refine cn [(30, none), (31, none)] 1 (rl [32, 1]) (by kernel_rfl) ?_
          refine ae rfl rfl rfl rfl (ce rfl rfl) ?_
          refine ae rfl rfl rfl rfl (bk rfl rfl) ?_
          refine az ⟨zD, ?_⟩
          refine ar [32] (by kernel_rfl) (by simp) ?_
          refine am ?_ ?_
          ·try dsimp only [St.put]
           refine bq rfl rfl rfl rfl (cd rfl rfl rfl zG (by constructor) rfl zO ?_)
           dsimp only [St.put]
           refine gq (by kernel_rfl) ?_
           refine gp rfl (.inl rfl) zN (gk zG zG zG zG fun n o q1 q2 q3 q4 h => ?_)
           have hn := hlt n o h
           (try dsimp only)
           repeat (first | exact h | rw [eu (by omega)] | rw [e9 (by omega)])
          exact aq
         exact aq
        exact aq
       exact aq
      exact aq
     exact aq
    refine am ?_ ?_
    ·try dsimp only [St.put]
     refine cb rfl rfl rfl (b9 rfl rfl rfl (by decide) (by decide) zR (by decide) ⟨zD, ?_⟩)
     refine ar [9] (by kernel_rfl) (by simp) ?_
     refine am ?_ ?_
     ·try dsimp only [St.put]
      refine cb rfl rfl rfl (cg ([(dm p.text x : Int)]) rfl rfl zG zE rfl rfl zA ⟨zD, ?_⟩ zA)
      refine ar [16] (by kernel_rfl) (by simp) ?_
      refine am ?_ ?_
      ·try dsimp only [St.put]
       refine cb rfl rfl rfl (cg ([cr p.text x]) rfl rfl zG zE rfl rfl zA ⟨zD, ?_⟩ zA)
       refine ar [23] (by kernel_rfl) (by simp) ?_
       refine am ?_ ?_
       ·try dsimp only [St.put]
        refine bq rfl rfl rfl rfl (cg ([dj p.text x]) rfl rfl zG zE rfl rfl zA ?_ zA)
        refine cn [(24, none), (25, none)] 7 (rl [26, 7]) (by kernel_rfl) ?_
        refine ae rfl rfl rfl rfl (ce rfl rfl) ?_
        refine ae rfl rfl rfl rfl (bk rfl rfl) ?_
        refine az ⟨zD, ?_⟩
        refine ar [26] (by kernel_rfl) (by simp) ?_
        refine am ?_ ?_
        ·try dsimp only [St.put]
         refine bq rfl rfl rfl rfl (cd rfl rfl rfl zG (by constructor) rfl zO ?_)
         refine cn [(27, none), (28, none)] 4 (rl [29, 4]) (by kernel_rfl) ?_
         refine ae rfl rfl rfl rfl (ce rfl rfl) ?_
         refine ae rfl rfl rfl rfl (bk rfl rfl) ?_
         refine az ⟨zD, ?_⟩
         refine ar [29] (by kernel_rfl) (by simp) ?_
         refine am ?_ ?_
         ·try dsimp only [St.put]
          refine bq rfl rfl rfl rfl (cd rfl rfl rfl zG (by constructor) rfl zO ?_)
          refine cn [(30, none), (31, none)] 1 (rl [32, 1]) (by kernel_rfl) ?_
          refine ae rfl rfl rfl rfl (ce rfl rfl) ?_
          refine ae rfl rfl rfl rfl (bk rfl rfl) ?_
          refine az ⟨zD, ?_⟩
          refine ar [32] (by kernel_rfl) (by simp) ?_
          refine am ?_ ?_
          ·try dsimp only [St.put]
           refine bq rfl rfl rfl rfl (cd rfl rfl rfl zG (by constructor) rfl zO ?_)
           dsimp only [St.put]
           refine gq (by kernel_rfl) ?_
           refine gp rfl (.inl rfl) zN (gk zG zG zG zG fun n o q1 q2 q3 q4 h => ?_)
           have hn := hlt n o h
           (try dsimp only)
           repeat (first | exact h | rw [eu (by omega)] | rw [e9 (by omega)])
          exact aq
         exact aq
        exact aq
       exact aq
      exact aq
     exact aq
    exact aq
   refine am ?_ ?_
   ·try dsimp only [St.put]
    refine cb rfl rfl rfl (b9 rfl rfl rfl (by decide) (by decide) zR (by decide) ⟨zD, ?_⟩)
    refine ar [8] (by kernel_rfl) (by simp) ?_
    refine am ?_ ?_
    ·try dsimp only [St.put]
     refine cb rfl rfl rfl (b9 rfl rfl rfl (by decide) (by decide) zR (by decide) ⟨zD, ?_⟩)
     refine ar [9] (by kernel_rfl) (by simp) ?_
     refine am ?_ ?_
     ·try dsimp only [St.put]
      refine cb rfl rfl rfl (cg ([(dm p.text x : Int)]) rfl rfl zG zE rfl rfl zA ⟨zD, ?_⟩ zA)
      refine ar [16] (by kernel_rfl) (by simp) ?_
      refine am ?_ ?_
      ·try dsimp only [St.put]
       refine cb rfl rfl rfl (cg ([cr p.text x]) rfl rfl zG zE rfl rfl zA ⟨zD, ?_⟩ zA)
       refine ar [23] (by kernel_rfl) (by simp) ?_
       refine am ?_ ?_
       ·try dsimp only [St.put]
        refine bq rfl rfl rfl rfl (cg ([dj p.text x]) rfl rfl zG zE rfl rfl zA ?_ zA)
        refine cn [(24, none), (25, none)] 7 (rl [26, 7]) (by kernel_rfl) ?_
        refine ae rfl rfl rfl rfl (ce rfl rfl) ?_
        refine ae rfl rfl rfl rfl (bk rfl rfl) ?_
        refine az ⟨zD, ?_⟩
        refine ar [26] (by kernel_rfl) (by simp) ?_
        refine am ?_ ?_
        ·try dsimp only [St.put]
         refine bq rfl rfl rfl rfl (cd rfl rfl rfl zG (by constructor) rfl zO ?_)
         refine cn [(27, none), (28, none)] 4 (rl [29, 4]) (by kernel_rfl) ?_
         refine ae rfl rfl rfl rfl (ce rfl rfl) ?_
         refine ae rfl rfl rfl rfl (bk rfl rfl) ?_
         refine az ⟨zD, ?_⟩
         refine ar [29] (by kernel_rfl) (by simp) ?_
         refine am ?_ ?_
         ·try dsimp only [St.put]
          refine bq rfl rfl rfl rfl (cd rfl rfl rfl zG (by constructor) rfl zO ?_)
          refine cn [(30, none), (31, none)] 1 (rl [32, 1]) (by kernel_rfl) ?_
          refine ae rfl rfl rfl rfl (ce rfl rfl) ?_
          refine ae rfl rfl rfl rfl (bk rfl rfl) ?_
          refine az ⟨zD, ?_⟩
          refine ar [32] (by kernel_rfl) (by simp) ?_
          refine am ?_ ?_
          ·try dsimp only [St.put]
           refine bq rfl rfl rfl rfl (cd rfl rfl rfl zG (by constructor) rfl zO ?_)
           dsimp only [St.put]
           refine gq (by kernel_rfl) ?_
           refine gp rfl (.inl rfl) zN (gk zG zG zG zG fun n o q1 q2 q3 q4 h => ?_)
           have hn := hlt n o h
           (try dsimp only)
           repeat (first | exact h | rw [eu (by omega)] | rw [e9 (by omega)])
          exact aq
         exact aq
        exact aq
       exact aq
      exact aq
     exact aq
    exact aq
   exact aq
  refine am ?_ ?_
  ·try dsimp only [St.put]
   refine cb rfl rfl rfl (b9 rfl rfl rfl (by decide) (by decide) zR (by decide) ⟨zD, ?_⟩)
   refine ar [8, 15] (by kernel_rfl) (by simp) ?_
   refine am ?_ ?_
   ·try dsimp only [St.put]
    refine cb rfl rfl rfl (b9 rfl rfl rfl (by decide) (by decide) zR (by decide) ⟨zD, ?_⟩)
    refine ar [9, 15] (by kernel_rfl) (by simp) ?_
    refine am ?_ ?_
    ·try dsimp only [St.put]
     refine cb rfl rfl rfl (cg ([(dm p.text x : Int)]) rfl rfl zG zE rfl rfl zA ⟨zD, ?_⟩ zA)
     refine ar [15] (by kernel_rfl) (by simp) ?_
     refine am ?_ ?_
     ·try dsimp only [St.put]
      refine cb rfl rfl rfl (b9 rfl rfl rfl (by decide) (by decide) zR (by decide) ⟨zD, ?_⟩)
      refine ar [16] (by kernel_rfl) (by simp) ?_
      refine am ?_ ?_
      ·try dsimp only [St.put]
       refine cb rfl rfl rfl (cg ([cr p.text x]) rfl rfl zG zE rfl rfl zA ⟨zD, ?_⟩ zA)
       refine ar [23] (by kernel_rfl) (by simp) ?_
       refine am ?_ ?_
       ·try dsimp only [St.put]
        refine bq rfl rfl rfl rfl (cg ([dj p.text x]) rfl rfl zG zE rfl rfl zA ?_ zA)
        refine cn [(24, none), (25, none)] 7 (rl [26, 7]) (by kernel_rfl) ?_
        refine ae rfl rfl rfl rfl (ce rfl rfl) ?_
        refine ae rfl rfl rfl rfl (bk rfl rfl) ?_
        refine az ⟨zD, ?_⟩
        refine ar [26] (by kernel_rfl) (by simp) ?_
        refine am ?_ ?_
        ·try dsimp only [St.put]
         refine bq rfl rfl rfl rfl (cd rfl rfl rfl zG (by constructor) rfl zO ?_)
         refine cn [(27, none), (28, none)] 4 (rl [29, 4]) (by kernel_rfl) ?_
         refine ae rfl rfl rfl rfl (ce rfl rfl) ?_
         refine ae rfl rfl rfl rfl (bk rfl rfl) ?_
         refine az ⟨zD, ?_⟩
         refine ar [29] (by kernel_rfl) (by simp) ?_
         refine am ?_ ?_
         ·try dsimp only [St.put]
          refine bq rfl rfl rfl rfl (cd rfl rfl rfl zG (by constructor) rfl zO ?_)
          refine cn [(30, none), (31, none)] 1 (rl [32, 1]) (by kernel_rfl) ?_
          refine ae rfl rfl rfl rfl (ce rfl rfl) ?_
          refine ae rfl rfl rfl rfl (bk rfl rfl) ?_
          refine az ⟨zD, ?_⟩
          refine ar [32] (by kernel_rfl) (by simp) ?_
          refine am ?_ ?_
          ·try dsimp only [St.put]
           refine bq rfl rfl rfl rfl (cd rfl rfl rfl zG (by constructor) rfl zO ?_)
           dsimp only [St.put]
           refine gq (by kernel_rfl) ?_
           refine gp rfl (.inl rfl) zN (gk zG zG zG zG fun n o q1 q2 q3 q4 h => ?_)
           have hn := hlt n o h
           (try dsimp only)
           repeat (first | exact h | rw [eu (by omega)] | rw [e9 (by omega)])
          exact aq
         exact aq
        exact aq
       exact aq
      exact aq
     exact aq
    refine am ?_ ?_
    ·try dsimp only [St.put]
     refine cb rfl rfl rfl (b9 rfl rfl rfl (by decide) (by decide) zR (by decide) ⟨zD, ?_⟩)
     refine ar [9] (by kernel_rfl) (by simp) ?_
     refine am ?_ ?_
     ·try dsimp only [St.put]
      refine cb rfl rfl rfl (cg ([(dm p.text x : Int)]) rfl rfl zG zE rfl rfl zA ⟨zD, ?_⟩ zA)
      refine ar [16] (by kernel_rfl) (by simp) ?_
      refine am ?_ ?_
      ·try dsimp only [St.put]
       refine cb rfl rfl rfl (cg ([cr p.text x]) rfl rfl zG zE rfl rfl zA ⟨zD, ?_⟩ zA)
       refine ar [23] (by kernel_rfl) (by simp) ?_
       refine am ?_ ?_
       ·try dsimp only [St.put]
        refine bq rfl rfl rfl rfl (cg ([dj p.text x]) rfl rfl zG zE rfl rfl zA ?_ zA)
        refine cn [(24, none), (25, none)] 7 (rl [26, 7]) (by kernel_rfl) ?_
        refine ae rfl rfl rfl rfl (ce rfl rfl) ?_
        refine ae rfl rfl rfl rfl (bk rfl rfl) ?_
        refine az ⟨zD, ?_⟩
        refine ar [26] (by kernel_rfl) (by simp) ?_
        refine am ?_ ?_
        ·try dsimp only [St.put]
         refine bq rfl rfl rfl rfl (cd rfl rfl rfl zG (by constructor) rfl zO ?_)
         refine cn [(27, none), (28, none)] 4 (rl [29, 4]) (by kernel_rfl) ?_
         refine ae rfl rfl rfl rfl (ce rfl rfl) ?_
         refine ae rfl rfl rfl rfl (bk rfl rfl) ?_
         refine az ⟨zD, ?_⟩
         refine ar [29] (by kernel_rfl) (by simp) ?_
         refine am ?_ ?_
         ·try dsimp only [St.put]
          refine bq rfl rfl rfl rfl (cd rfl rfl rfl zG (by constructor) rfl zO ?_)
          refine cn [(30, none), (31, none)] 1 (rl [32, 1]) (by kernel_rfl) ?_
          refine ae rfl rfl rfl rfl (ce rfl rfl) ?_
          refine ae rfl rfl rfl rfl (bk rfl rfl) ?_
          refine az ⟨zD, ?_⟩
          refine ar [32] (by kernel_rfl) (by simp) ?_
          refine am ?_ ?_
          ·try dsimp only [St.put]
           refine bq rfl rfl rfl rfl (cd rfl rfl rfl zG (by constructor) rfl zO ?_)
           dsimp only [St.put]
           refine gq (by kernel_rfl) ?_
           refine gp rfl (.inl rfl) zN (gk zG zG zG zG fun n o q1 q2 q3 q4 h => ?_)
           have hn := hlt n o h
           (try dsimp only)
           repeat (first | exact h | rw [eu (by omega)] | rw [e9 (by omega)])
          exact aq
         exact aq
        exact aq
       exact aq
      exact aq
     exact aq
    exact aq
   refine am ?_ ?_
   ·try dsimp only [St.put]
    refine cb rfl rfl rfl (b9 rfl rfl rfl (by decide) (by decide) zR (by decide) ⟨zD, ?_⟩)
    refine ar [8] (by kernel_rfl) (by simp) ?_
    refine am ?_ ?_
    ·try dsimp only [St.put]
     refine cb rfl rfl rfl (b9 rfl rfl rfl (by decide) (by decide) zR (by decide) ⟨zD, ?_⟩)
     refine ar [9] (by kernel_rfl) (by simp) ?_
     refine am ?_ ?_
     ·try dsimp only [St.put]
      refine cb rfl rfl rfl (cg ([(dm p.text x : Int)]) rfl rfl zG zE rfl rfl zA ⟨zD, ?_⟩ zA)
      refine ar [16] (by kernel_rfl) (by simp) ?_
      refine am ?_ ?_
      ·try dsimp only [St.put]
       refine cb rfl rfl rfl (cg ([cr p.text x]) rfl rfl zG zE rfl rfl zA ⟨zD, ?_⟩ zA)
       refine ar [23] (by kernel_rfl) (by simp) ?_
       refine am ?_ ?_
       ·try dsimp only [St.put]
        refine bq rfl rfl rfl rfl (cg ([dj p.text x]) rfl rfl zG zE rfl rfl zA ?_ zA)
        refine cn [(24, none), (25, none)] 7 (rl [26, 7]) (by kernel_rfl) ?_
        refine ae rfl rfl rfl rfl (ce rfl rfl) ?_
        refine ae rfl rfl rfl rfl (bk rfl rfl) ?_
        refine az ⟨zD, ?_⟩
        refine ar [26] (by kernel_rfl) (by simp) ?_
        refine am ?_ ?_
        ·try dsimp only [St.put]
         refine bq rfl rfl rfl rfl (cd rfl rfl rfl zG (by constructor) rfl zO ?_)
         refine cn [(27, none), (28, none)] 4 (rl [29, 4]) (by kernel_rfl) ?_
         refine ae rfl rfl rfl rfl (ce rfl rfl) ?_
         refine ae rfl rfl rfl rfl (bk rfl rfl) ?_
         refine az ⟨zD, ?_⟩
         refine ar [29] (by kernel_rfl) (by simp) ?_
         refine am ?_ ?_
         ·try dsimp only [St.put]
          refine bq rfl rfl rfl rfl (cd rfl rfl rfl zG (by constructor) rfl zO ?_)
          refine cn [(30, none), (31, none)] 1 (rl [32, 1]) (by kernel_rfl) ?_
          refine ae rfl rfl rfl rfl (ce rfl rfl) ?_
          refine ae rfl rfl rfl rfl (bk rfl rfl) ?_
          refine az ⟨zD, ?_⟩
          refine ar [32] (by kernel_rfl) (by simp) ?_
          refine am ?_ ?_
          ·try dsimp only [St.put]
           refine bq rfl rfl rfl rfl (cd rfl rfl rfl zG (by constructor) rfl zO ?_)
           dsimp only [St.put]
           refine gq (by kernel_rfl) ?_
           refine gp rfl (.inl rfl) zN (gk zG zG zG zG fun n o q1 q2 q3 q4 h => ?_)
           have hn := hlt n o h
           (try dsimp only)
           repeat (first | exact h | rw [eu (by omega)] | rw [e9 (by omega)])
          exact aq
         exact aq
        exact aq
       exact aq
      exact aq
     exact aq
    exact aq
   exact aq
  exact aq
 have hz0 := xx hym
 subst hz0
 obtain ⟨z, hz⟩ : ∃ z, z = y := ⟨_, rfl⟩
 subst hz
 have hIn : ∀ z ∈ ks, ∀ x ∈ done ++ [z], x ∈ ks := fun z hz x hx => by
  rcases List.mem_append.1 hx with hx | hx
  ·exact hI8.1 x hx
  rw [List.mem_singleton] at hx; exact hx ▸ hz
 have hIu : ∀ z, z ∉ done → (done ++ [z]).Nodup := fun z hz => List.nodup_append.2 ⟨hI8.2, by simp, fun a ha b hb => by
  rw [List.mem_singleton] at hb; subst hb; exact fun e => hz (e ▸ ha)⟩
 have hdl := ut hp hI8.2 (fun q hq => onceM_ne.1 ((hks0 q).2 (hI8.1 q hq)))
 refine yX rfl rfl rfl rfl ?_
 refine yN ?_
 dsimp only [St.put]
 refine K50 _ ?_
 refine yS fun _ K53 => ?_
 refine av rfl (fun _ => ?_) (fun h => by cases h)
 refine ay ?_
 refine K53 _ ?_
 refine bg ?_
 refine yS fun _ K54 => ?_
 refine yR ?_
 try dsimp only [St.put]
 refine ck rfl (uax (fx := nx + 1 + 1 + 1 + 1) (n := nx) rfl rfl zG trivial zG zG trivial (by assumption)) ?_
 refine yX rfl rfl rfl rfl ?_
 try dsimp only [St.put]
 refine af rfl (dx rfl ?_)
 try dsimp only [St.put]
 refine af rfl (dh rfl rfl rfl zG rfl rfl (by rfl) ?_)
 refine yN ?_
 dsimp only [St.put]
 refine K54 _ ?_
 refine gh (i := 18) rfl zG zC ?_
 dsimp only
 refine yR ?_
 refine yM rfl rfl ?_
 try dsimp only [St.put]
 refine ck rfl (e8 rfl rfl rfl) ?_
 try dsimp only [St.put]
 refine af rfl (b9 rfl rfl rfl (by decide) (by decide) zR (by decide) ?_)
 try dsimp only [St.put]
 refine af rfl (qw (xs := dj p.text x ++ done) [z] rfl rfl zG rfl rfl rfl rfl zA zA (fun v3 => ?_))
 refine yA rfl rfl ?_
 refine yN ?_
 dsimp only [St.put]
 simp only [List.append_assoc]
 exact ⟨(done ++ [z], wi + 1, v3, wv), uc0 hyk hyd, ⟨hIn z hyk, hIu z hyd⟩, ⟨⟨rfl, rfl⟩, zF, zB, zN, zX⟩⟩
end Go.Proofs.YtbbdginipiljdaaGreatDoor
namespace Go.AB
open Go Go.RowKit
open Go.AB.Enc (cells)
open Go.PB (ba ai PlaceD bh bj bi bw aw ah cw br dg dl)
end Go.AB
namespace Go.Proofs.YtbbdginipiljdaaGreatDoor
set_option maxRecDepth 10000
open Go Go.RowKit Go.AB
open Go.AB.Enc (cells)
open Go.PB (ba ai PlaceD bh bj bi bw aw ah cw br dg dl)
theorem uml (l : List Int) (he : l = []) : Pure Tryz.prog 88 [lst l] (lst l) := by
 subst he
 refine c6 Tryz.func88 rfl (fun m => (ca _ _)) fun G nx => ?_
 simp only [Tryz.ntmps88, List.length_cons, List.length_nil, Nat.reduceAdd, Nat.reduceSub]
 refine cc fun hlt => ?_
 dsimp only at hlt
 refine yS fun _ K1 => ?_
 refine yR ?_
 refine yA rfl rfl ?_
 refine yN ?_
 dsimp only [St.put]
 refine K1 _ ?_
 refine yS fun _ K2 => ?_
 refine yS fun _ K3 => ?_
 refine yR ?_
 refine yM rfl rfl ?_
 refine af rfl (uef rfl rfl fun b _ => ?_)
 refine yN ?_
 dsimp only [St.put]
 refine K3 _ ?_
 refine av rfl (fun hc => ?_) (fun hc => ?_)
 ·try replace hc := of_decide_eq_true hc
  refine yS fun _ K4 => ?_
  refine yR ?_
  refine yA rfl rfl ?_
  refine yN ?_
  dsimp only [St.put]
  refine K4 _ ?_
  refine ax ?_
  refine qv rfl (ef (by constructor)) zN zS ?_
  exact zW
 try replace hc := of_decide_eq_false hc
 refine ay ?_
 refine K2 _ ?_
 refine yS fun _ K5 => ?_
 refine yR ?_
 try dsimp only [St.put]
 refine af rfl (vx rfl ?_)
 refine yM rfl rfl ?_
 try dsimp only [St.put]
 refine af rfl (y9 rfl rfl (.inl rfl) rfl (show 1 ≤ 1 by decide) (fun r hr => by cases hr) (by simp) (by simp) ?_)
 refine yA rfl rfl ?_
 refine yN ?_
 dsimp only [St.put]
 refine K5 _ ?_
 refine ax ?_
 refine qv rfl (ef (by constructor)) zN zS ?_
 exact zW
theorem zc (l : List Int) (hne : l ≠ []) (hl : l.length ≤ 1000) (G : Nat → Option GObj) (nx : Nat) : PC Tryz.prog 88 [lst l] G nx fun r G' nx' => r = .own nx 0 l.length ∧ G' = ak G nx (.arr 0 0 3 1 l.length (dq l)) ∧ nx' = nx + 1 := by
 refine ij (ak G nx (.arr 0 0 3 1 l.length (dq l))) (nx + 1) Tryz.func88 rfl (.own (Nat.lt_succ_self _)) zN (fun hlt => (by (repeat' (refine la ?_ (by (try dsimp only); omega) ?_)); all_goals (first | exact ld zS | (repeat' (first | exact trivial | refine ⟨?_, ?_⟩ | exact .v | exact .any | refine .elem ?_ | exact ca _ _ | exact fq _ _ | exact el _ _ | exact fy _ (by (try dsimp only); omega) | exact .box (by (try dsimp only); omega) | exact fk | exact dn | exact fe _ | refine ga ?_ ?_ | exact .arr (by (try dsimp only); omega) | exact .own (by (try dsimp only); omega) | exact .map (by (try dsimp only); omega) | exact fe _ | refine co ?_ ?_ | exact ca _ _))))) ?_
 simp only [Tryz.ntmps88, List.length_cons, List.length_nil, Nat.reduceAdd, Nat.reduceSub]
 refine cc fun hlt => ?_
 dsimp only at hlt
 refine yS fun _ K1 => ?_
 refine yR ?_
 refine yA rfl rfl ?_
 refine yN ?_
 dsimp only [St.put]
 refine K1 _ ?_
 refine yS fun _ K2 => ?_
 refine yS fun _ K3 => ?_
 refine yR ?_
 refine yM rfl rfl ?_
 refine af rfl (uee (fun e => hne (by simpa using e)) rfl rfl ?_)
 refine yN ?_
 dsimp only [St.put]
 refine K3 _ ?_
 refine av rfl (fun hc => ?_) (fun hc => ?_)
 ·try replace hc := of_decide_eq_true hc
  refine yS fun _ K4 => ?_
  refine yR ?_
  refine yA rfl rfl ?_
  refine yN ?_
  dsimp only [St.put]
  refine K4 _ ?_
  refine ax ?_
  exact absurd hc (by decide)
 try replace hc := of_decide_eq_false hc
 refine ay ?_
 refine K2 _ ?_
 refine yS fun _ K5 => ?_
 refine yR ?_
 try dsimp only [St.put]
 refine af rfl (vx rfl ?_)
 refine yM rfl rfl ?_
 try dsimp only [St.put]
 refine af rfl (ueh l rfl rfl (.inl rfl) rfl rfl hne (by decide) (by omega) (by omega) ?_)
 refine yA rfl rfl ?_
 refine yN ?_
 dsimp only [St.put]
 refine K5 _ ?_
 refine ax ?_
 refine bf rfl (by constructor) zN zS ?_
 rfl
set_option maxHeartbeats 1000000 in
theorem uiy (p : ah) (R C : Nat → Int) (j : Nat) (x : aw) (n : Int) (h : eg p) (h0 : 0 < bt p) (hx : p.pages[j]? = some x) (hn : -1000000 ≤ n ∧ n ≤ 1000000) (hR : ∀ i, -1000000 ≤ R i ∧ R i ≤ 1000000) : Pure Tryz.prog 51 [val (gl p R C), .v (.int .i64 (j : Int)), .v (.int .i64 n)] (val (gl p ((bu p).lessR R j n) (er C j))) := by
 refine c6 Tryz.func51 rfl (fun m => (el _ _)) fun G nx => ?_
 simp only [Tryz.ntmps51, List.length_cons, List.length_nil, Nat.reduceAdd, Nat.reduceSub]
 refine cc fun hlt => ?_
 dsimp only at hlt
 have hjl := (List.getElem?_eq_some_iff.1 hx).1
 have hrx := un hx
 have hn1 := h.nf
 have hn2 := h.ns
 have hnp := h.np
 have hnr : bt p = p.firsts.length + p.seconds.length := rfl
 have hrl := xn p x
 have hl1 := g3 (bt p) R
 have hl2 := g3 p.pages.length C
 have hne2 : bn p.pages.length C ≠ [] := fun e => by rw [e] at hl2; simp at hl2; omega
 have hne1 : bn (bt p) R ≠ [] := fun e => by rw [e] at hl1; simp at hl1; omega
 refine yS fun _ K1 => ?_
 refine yR ?_
 try dsimp only [St.put]
 refine af rfl (y8 rfl rfl ?_)
 try dsimp only [St.put]
 refine af rfl (dx rfl ?_)
 refine yN ?_
 dsimp only [St.put]
 refine K1 _ ?_
 refine yS fun _ K2 => ?_
 refine g7 [(0, none), (1, none), (3, none), (4, none), (2, none), (6, none), (5, none), (7, none), (8, none), (9, none)] (fun i => [5, 7, 9].contains i) (fun i => [2, 5, 7, 9].contains i) (fun i => [0, 3, 6, 8].contains i) [nx] (by kernel_rfl) (by kernel_rfl) ?_
 refine ae rfl rfl rfl rfl (bk rfl rfl) ?_
 try dsimp only [St.put]
 refine bd rfl rfl rfl rfl (fu rfl rfl zG (by simp) (by first | rfl | assumption)) ?_
 refine ae rfl rfl rfl rfl (bk rfl rfl) ?_
 try dsimp only [St.put]
 refine bd rfl rfl rfl rfl (fu rfl rfl zG (by simp) (by first | rfl | assumption)) ?_
 refine jo ?_
 try dsimp only [St.put]
 refine ka rfl rfl rfl (th rfl rfl rfl (zc (bn (bt p) R) hne1 (by omega) _ _) ⟨zD, ?_⟩)
 refine c8 rfl rfl rfl rfl (bk rfl rfl) ?_
 try dsimp only [St.put]
 refine g8 rfl rfl rfl rfl (th rfl rfl rfl (zc (bn p.pages.length C) hne2 (by omega) _ _) ?_)
 try dsimp only [St.put]
 refine g8 rfl rfl rfl rfl (cd rfl rfl rfl zG (by constructor) rfl zO ?_)
 refine c8 rfl rfl rfl rfl (bk rfl rfl) ?_
 try dsimp only [St.put]
 refine g8 rfl rfl rfl rfl (cd rfl rfl rfl zG (by constructor) rfl (by show 1 < 3; decide) ?_)
 refine ji ?_
 dsimp only [St.put]
 simp only [hl1, hl2]
 refine K2 _ ?_
 refine yS fun _ K3 => ?_
 refine yS fun _ K4 => ?_
 refine yR ?_
 refine aa rfl (bk rfl rfl) ?_
 try dsimp only [St.put]
 refine ck rfl (fu rfl rfl zG trivial (by first | rfl | assumption)) ?_
 refine yM rfl rfl ?_
 refine aa rfl (bx rfl rfl rfl rfl (bv (by assumption)) (Enc.len _)) ?_
 refine yL rfl rfl rfl ?_
 refine aa rfl (bp rfl rfl (List.length_map _)) ?_
 refine yM rfl rfl ?_
 refine yN ?_
 dsimp only [St.put]
 refine K4 _ ?_
 refine bg ?_
 refine ct 24 ?_
 refine zQ ?_
 refine dd ((ak (ak (ak (ak G nx (.box 2 [.own (nx + 1 + 1) 0 (bt p), .own (nx + 1 + 1 + 1) 0 p.pages.length, lst (p.pages.map (dt p))])) (nx + 1) (.box 0 [.list [] .nil, .list [] .nil, .list [] .nil])) (nx + 1 + 1) (.arr 0 0 3 1 (bt p) (dq (bn (bt p) (R))))) (nx + 1 + 1 + 1) (.arr 0 0 3 1 p.pages.length (dq (bn p.pages.length C))))) zX ?_
 dsimp only
 refine dc (X := Nat) (fun k => k ≤ (dt p x).length ∧ ∀ i, -1000000 - k * 1000000 ≤ ky R n ((dt p x).take k) i ∧ ky R n ((dt p x).take k) i ≤ 1000000 + k * 1000000) (fun k => (dt p x).length - k) (fun k => [(8, .any), (23, .v (.int .i64 (k : Int)))]) (fun k G' => (ak (ak (ak (ak G nx (.box 2 [.own (nx + 1 + 1) 0 (bt p), .own (nx + 1 + 1 + 1) 0 p.pages.length, lst (p.pages.map (dt p))])) (nx + 1) (.box 0 [.list [] .nil, .list [] .nil, .list [] .nil])) (nx + 1 + 1) (.arr 0 k 3 1 (bt p) (dq (bn (bt p) ((ky R n ((dt p x).take k))))))) (nx + 1 + 1 + 1) (.arr 0 0 3 1 p.pages.length (dq (bn p.pages.length C))))) 0 rfl ?_ ?_ ?_ ?_ ?_ ?_
 ·exact ⟨Nat.zero_le _, fun i => by have := hR i; simp only [List.take_zero, ug1]; omega⟩
 ·exact zF
 ·exact zX
 ·rintro k hI
  exact zL
 ·rintro k hI
  exact zH
 rintro k hI
 dsimp only at hI ⊢
 refine yS fun _ K5 => ?_
 refine yR ?_
 refine aa rfl (cp rfl rfl rfl) ?_
 refine yN ?_
 dsimp only [St.put]
 refine K5 _ ?_
 refine yS fun _ K6 => ?_
 refine av rfl (fun hc => ?_) (fun hc => ?_)
 ·replace hc := of_decide_eq_true hc
  obtain ⟨zn, hz, hz6⟩ := xm h hx (k := k) (by omega)
  have hst := ug0 (R := R) (n := n) hz
  rw [Int.toNat_natCast] at hst
  have hI2 : ∀ i, -1000000 - ((k + 1 : Nat) : Int) * 1000000 ≤ ky R n ((dt p x).take (k + 1)) i ∧ ky R n ((dt p x).take (k + 1)) i ≤ 1000000 + ((k + 1 : Nat) : Int) * 1000000 := fun i => by
   rw [hst]
   have h1 := hI.2 i
   have h2 := hI.2 zn
   dsimp only
   cases decide (i = zn)
   ·rw [cond_false]
    omega
   rw [cond_true]
   omega
  have hI3 := hI.2 zn
  obtain ⟨S, hS⟩ : ∃ S, ky R n ((dt p x).take k) = S := ⟨_, rfl⟩
  rw [hS] at hst hI3 ⊢
  have hset := w9 S (S zn - n) hz6
  rw [← hst] at hset
  refine ay ?_
  refine K6 _ ?_
  refine yS fun _ K7 => ?_
  refine bg ?_
  refine yS fun _ K8 => ?_
  refine yR ?_
  refine aa rfl (bx rfl rfl rfl rfl (bv (by assumption)) (Enc.len _)) ?_
  refine yL rfl rfl rfl ?_
  refine yA rfl rfl ?_
  refine yN ?_
  dsimp only [St.put]
  refine K8 _ ?_
  refine yR ?_
  refine aa rfl (bk rfl rfl) ?_
  try dsimp only [St.put]
  refine ck rfl (fu rfl rfl zG trivial (by first | rfl | assumption)) ?_
  refine yM rfl rfl ?_
  try dsimp only [St.put]
  refine aa rfl (uz rfl rfl zG rfl rfl hz6) ?_
  try dsimp only [St.put]
  refine ck rfl (kz rfl rfl zG (by simp) (uls (by rw [Nat.mul_one]; exact ke S hz6))) ?_
  refine yM rfl rfl ?_
  refine aa rfl (gt rfl rfl rfl (by omega)) ?_
  try dsimp only [St.put]
  refine aa rfl (uz rfl rfl zG rfl rfl hz6) ?_
  try dsimp only [St.put]
  refine af rfl (y5 (k := zn) (j := 0) (z := S zn) (z' := S zn - n) rfl rfl rfl zG rfl rfl (ke S hz6) rfl (by decide) rfl ?_)
  refine yN ?_
  dsimp only [St.put]
  refine K7 _ ?_
  refine yR ?_
  refine aa rfl (bz rfl rfl rfl (by omega)) ?_
  refine yM rfl rfl ?_
  refine yN ?_
  dsimp only [St.put]
  rw [hset]
  exact ⟨k + 1, by omega, ⟨by omega, hI2⟩, ⟨⟨rfl, rfl⟩, zF, zB, zN, zX⟩⟩
 replace hc := of_decide_eq_false hc
 rw [f8 (show (dt p x).length ≤ k by omega), ← ukn h hx]
 refine c7 ?_
 refine K3 _ ?_
 refine yS fun _ K9 => ?_
 refine yR ?_
 refine aa rfl (bk rfl rfl) ?_
 try dsimp only [St.put]
 refine ck rfl (fu rfl rfl zG trivial (by first | rfl | assumption)) ?_
 refine yM rfl rfl ?_
 try dsimp only [St.put]
 refine aa rfl (uz rfl rfl zG rfl rfl hjl) ?_
 try dsimp only [St.put]
 refine af rfl (y5 (k := j) (j := 0) (z := C j) (z' := 0) rfl rfl rfl zG rfl rfl (ke C hjl) rfl (by decide) rfl ?_)
 refine yN ?_
 dsimp only [St.put]
 rw [show (bn p.pages.length C).set j 0 = bn p.pages.length (er C j) from w9 C 0 hjl]
 refine K9 _ ?_
 refine yS fun _ K10 => ?_
 refine zm nx 0 (bn (bt p) ((bu p).lessR R j n)) zG rfl zG (by omega) rfl rfl (g3 _ _).symm ?_
 refine zm nx 1 (bn p.pages.length (er C j)) zG rfl zG (by omega) rfl rfl (g3 _ _).symm ?_
 dsimp only [List.set_cons_zero, List.set_cons_succ]
 refine yR ?_
 try dsimp only [St.put]
 refine ck rfl (i1 rfl rfl zG trivial (by rfl)) ?_
 try dsimp only [St.put]
 refine af rfl (dh rfl rfl rfl zG rfl rfl (by rfl) ?_)
 refine yN ?_
 dsimp only [St.put]
 refine K10 _ ?_
 refine ax ?_
 refine qv rfl (j1 rfl zG (by rfl) zC rfl) zN zS ?_
 exact zW
set_option maxHeartbeats 1000000 in
theorem uiz (p : ah) (R C : Nat → Int) (j : Nat) (x : aw) (n : Int) (h : eg p) (h0 : bt p = 0) (hx : p.pages[j]? = some x) (hn : -1000000 ≤ n ∧ n ≤ 1000000) (hR : ∀ i, -1000000 ≤ R i ∧ R i ≤ 1000000) : Pure Tryz.prog 51 [val (gl p R C), .v (.int .i64 (j : Int)), .v (.int .i64 n)] (val (gl p ((bu p).lessR R j n) (er C j))) := by
 refine c6 Tryz.func51 rfl (fun m => (el _ _)) fun G nx => ?_
 simp only [Tryz.ntmps51, List.length_cons, List.length_nil, Nat.reduceAdd, Nat.reduceSub]
 refine cc fun hlt => ?_
 dsimp only at hlt
 have hjl := (List.getElem?_eq_some_iff.1 hx).1
 have hrx := un hx
 have hn1 := h.nf
 have hn2 := h.ns
 have hnp := h.np
 have hnr : bt p = p.firsts.length + p.seconds.length := rfl
 have hrl := xn p x
 have hl1 := g3 (bt p) R
 have hl2 := g3 p.pages.length C
 have hne2 : bn p.pages.length C ≠ [] := fun e => by rw [e] at hl2; simp at hl2; omega
 have he1 : bn (bt p) R = [] := by rw [h0]; rfl
 refine yS fun _ K1 => ?_
 refine yR ?_
 try dsimp only [St.put]
 refine af rfl (y8 rfl rfl ?_)
 try dsimp only [St.put]
 refine af rfl (dx rfl ?_)
 refine yN ?_
 dsimp only [St.put]
 refine K1 _ ?_
 refine yS fun _ K2 => ?_
 refine g7 [(0, none), (1, none), (3, none), (4, none), (2, none), (6, none), (5, none), (7, none), (8, none), (9, none)] (fun i => [5, 7, 9].contains i) (fun i => [2, 5, 7, 9].contains i) (fun i => [0, 3, 6, 8].contains i) [nx] (by kernel_rfl) (by kernel_rfl) ?_
 refine ae rfl rfl rfl rfl (bk rfl rfl) ?_
 try dsimp only [St.put]
 refine bd rfl rfl rfl rfl (fu rfl rfl zG (by simp) (by first | rfl | assumption)) ?_
 refine ae rfl rfl rfl rfl (bk rfl rfl) ?_
 try dsimp only [St.put]
 refine bd rfl rfl rfl rfl (fu rfl rfl zG (by simp) (by first | rfl | assumption)) ?_
 refine jo ?_
 try dsimp only [St.put]
 refine ka rfl rfl rfl (bc rfl rfl rfl (uml (bn (bt p) R) he1) ⟨zD, ?_⟩)
 refine c8 rfl rfl rfl rfl (bk rfl rfl) ?_
 try dsimp only [St.put]
 refine g8 rfl rfl rfl rfl (th rfl rfl rfl (zc (bn p.pages.length C) hne2 (by omega) _ _) ?_)
 try dsimp only [St.put]
 refine g8 rfl rfl rfl rfl (cd rfl rfl rfl zG (by constructor) rfl zO ?_)
 refine c8 rfl rfl rfl rfl (bk rfl rfl) ?_
 try dsimp only [St.put]
 refine g8 rfl rfl rfl rfl (cd rfl rfl rfl zG (by constructor) rfl (by show 1 < 3; decide) ?_)
 refine ji ?_
 dsimp only [St.put]
 simp only [hl1, hl2]
 refine K2 _ ?_
 refine yS fun _ K3 => ?_
 refine yS fun _ K4 => ?_
 refine yR ?_
 refine aa rfl (bk rfl rfl) ?_
 try dsimp only [St.put]
 refine ck rfl (fu rfl rfl zG trivial (by first | rfl | assumption)) ?_
 refine yM rfl rfl ?_
 refine aa rfl (bx rfl rfl rfl rfl (bv (by assumption)) (Enc.len _)) ?_
 refine yL rfl rfl rfl ?_
 refine aa rfl (bp rfl rfl (List.length_map _)) ?_
 refine yM rfl rfl ?_
 refine yN ?_
 dsimp only [St.put]
 refine K4 _ ?_
 refine bg ?_
 refine ct 24 ?_
 refine zQ ?_
 refine dc (X := Nat) (fun k => k ≤ (dt p x).length) (fun k => (dt p x).length - k) (fun k => [(8, .any), (23, .v (.int .i64 (k : Int)))]) (fun k G' => G') 0 rfl ?_ ?_ (fun _ _ h => h) ?_ ?_ ?_
 ·exact Nat.zero_le _
 ·exact zF
 ·rintro k hI
  exact zL
 ·exact fun _ _ _ _ h => .inl h
 rintro k hI
 dsimp only at hI ⊢
 refine yS fun _ K5 => ?_
 refine yR ?_
 refine aa rfl (cp rfl rfl rfl) ?_
 refine yN ?_
 dsimp only [St.put]
 refine K5 _ ?_
 refine yS fun _ K6 => ?_
 refine av rfl (fun hc => ?_) (fun hc => ?_)
 ·replace hc := of_decide_eq_true hc
  obtain ⟨zn, hz, hz6⟩ := xm h hx (k := k) (by omega)
  omega
 replace hc := of_decide_eq_false hc
 refine c7 ?_
 refine K3 _ ?_
 refine yS fun _ K7 => ?_
 refine yR ?_
 refine aa rfl (bk rfl rfl) ?_
 try dsimp only [St.put]
 refine ck rfl (fu rfl rfl zG trivial (by first | rfl | assumption)) ?_
 refine yM rfl rfl ?_
 try dsimp only [St.put]
 refine aa rfl (uz rfl rfl zG rfl rfl hjl) ?_
 try dsimp only [St.put]
 refine af rfl (y5 (k := j) (j := 0) (z := C j) (z' := 0) rfl rfl rfl zG rfl rfl (ke C hjl) rfl (by decide) rfl ?_)
 refine yN ?_
 dsimp only [St.put]
 rw [show (bn p.pages.length C).set j 0 = bn p.pages.length (er C j) from w9 C 0 hjl]
 refine K7 _ ?_
 refine yS fun _ K8 => ?_
 refine zm nx 1 (bn p.pages.length (er C j)) zG rfl zG (by omega) rfl rfl (g3 _ _).symm ?_
 dsimp only [List.set_cons_zero, List.set_cons_succ]
 rw [show bn (bt p) R = bn (bt p) ((bu p).lessR R j n) by rw [h0]; rfl]
 refine yR ?_
 try dsimp only [St.put]
 refine ck rfl (i1 rfl rfl zG trivial (by rfl)) ?_
 try dsimp only [St.put]
 refine af rfl (dh rfl rfl rfl zG rfl rfl (by rfl) ?_)
 refine yN ?_
 dsimp only [St.put]
 refine K8 _ ?_
 refine ax ?_
 refine qv rfl (j1 rfl zG (by rfl) zC rfl) zN zS ?_
 exact zW
theorem xp (p : ah) (R C : Nat → Int) (j : Nat) (x : aw) (n : Int) (h : eg p) (hx : p.pages[j]? = some x) (hn : -1000000 ≤ n ∧ n ≤ 1000000) (hR : ∀ i, -1000000 ≤ R i ∧ R i ≤ 1000000) : Pure Tryz.prog 51 [val (gl p R C), .v (.int .i64 (j : Int)), .v (.int .i64 n)] (val (gl p ((bu p).lessR R j n) (er C j))) := by
 by_cases h0 : bt p = 0
 ·exact uiz p R C j x n h h0 hx hn hR
 exact uiy p R C j x n h (by omega) hx hn hR
end Go.Proofs.YtbbdginipiljdaaGreatDoor
namespace Go.AB
open Go Go.RowKit
open Go.AB.Enc (cells)
def fa (n : Nat) (F : GObj) (P : Program) (f : FuncId) (args : List C) (r : C) : Prop := ∀ G nx, G n = some F → n < nx → PC P f args G nx fun r' G' nx' => r' = r ∧ G' = G ∧ nx' = nx
theorem ed {n : Nat} {F : GObj} {P : Program} {o : Oper} {st : St} {f : FuncId} [Fun P f] {fv : Operand} {args : List Operand} {ats : Array TypeId} {caps al : List C} {K : St → Prop} {r : C} (ho : o.op = .call { callee := .value fv, args := args.toArray, argTypes := ats }) (hf : evC st fv = .fn (.func f) caps) (has : args.map (evC st) ++ caps = al)
  (hp : fa n F P f al r) (hG : st.G n = some F) (hn : n < st.nx) (h : K (st.put o.dst r)) : EStep P o st K := ul8 ho hf has (hp _ _ hG hn) h
theorem uch {P : Program} {o : Oper} {st : St} {t : TypeId} {x i : Operand} {m j : Nat} {v : Value} {cs : List C} {d : C} {ds : List C} {e : TypeId} {ik : IntKind} {n : Int} {k sz : Nat} {ag : Bool} [ArrT P t m e] [Ty P e ag sz] (ho : o.op = .indexAddr t x i) (hx : evC st x = .v v) (hG : st.G j = some (.fact v (.elem cs))) (hi : evC st i = .v (.int ik n)) (hn : n = (k : Int)) (hk : k < m) (hd : cs.drop (k * sz) = d :: ds) : NStep P o st (.elem (d :: ds)) := fun E w a hs => by
 subst hn
 have e1 := (hi ▸ hs.ev i).v_inv
 have e0 := (hx ▸ hs.ev x).v_inv
 obtain ⟨b, off, us, hv, h1, h2, h3, h4, _⟩ := (hs.g.obj j _ hG).2.elem_inv
 refine ⟨.pointer (some ⟨b, off + k * sz, none⟩), hd ▸ R.elem_drop h1 h2 h3 h4 (k * sz) (by rw [hd]; simp), fun w' => ?_⟩
 have q1 := ArrT.spec (P := P) (t := t) (n := m) (e := e)
 have q2 := Ty.size (P := P) (w := w') (t := e) (ag := ag) (n := sz)
 have q3 : (k : Int) < (m : Int) := by omega
 simp [execOp, ho, Instr.indexAt, Instr.sureAddr, e0, hv, e1, asIntOf, run_underlying q1, q2, q3, p8]
 intro h; omega
end Go.AB
namespace Go.AB
open Go Go.RowKit
open Go.AB.Enc (cells)
open Go.PB (ba ai PlaceD bh bj bi bw aw ah cw br dg dl)
/-- the readers that have been looked at -/
def g4 (p : ah) : Nat → List bw
 | 0 => []
 | 1 => p.firsts
 | _ => p.firsts ++ p.seconds
theorem uhs {p : ah} : ∀ {k : Nat}, k < 2 → g4 p (k + 1) = g4 p k ++ dv p (decide (k = 1))
 | 0, _ => rfl
 | 1, _ => rfl
 | k + 2, h => by omega
def okR (l : List bw) : Prop := l.all gy = true ∧ (l.map (·.id)).Nodup
theorem ujo {l : List bw} {r : bw} (h : okR l) (h1 : gy r = true) (h2 : r.id ∉ l.map (·.id)) : okR (l ++ [r]) := by
 refine ⟨by rw [List.all_append, h.1]; simp [h1], ?_⟩
 rw [List.map_append, List.nodup_append]
 refine ⟨h.2, by simp, fun a ha b hb e => ?_⟩
 simp only [List.map_cons, List.map_nil, List.mem_singleton] at hb
 subst hb; subst e
 exact h2 ha
theorem uhr {p : ah} : ∀ {k i : Nat}, k < 2 → (g4 p k ++ (dv p (decide (k = 1))).take i) <+: (p.firsts ++ p.seconds)
 | 0, i, _ => by
  show [] ++ p.firsts.take i <+: p.firsts ++ p.seconds
  rw [List.nil_append]
  exact (List.take_prefix i p.firsts).trans (List.prefix_append _ _)
 | 1, i, _ => (List.prefix_append_right_inj p.firsts).2 (List.take_prefix i p.seconds)
 | k + 2, _, h => by omega
theorem uii {p : ah} {k i : Nat} {r : bw} (hk : k < 2) (hr : (dv p (decide (k = 1)))[i]? = some r) (hb : gy r = false ∨ r.id ∈ (g4 p k ++ (dv p (decide (k = 1))).take i).map (·.id)) : gg p = false := by
 have hpre := uhr (p := p) (k := k) (i := i + 1) hk
 rw [List.take_add_one, hr, Option.toList_some, ← List.append_assoc] at hpre
 unfold gg jt
 rcases hb with h | h
 ·have : (p.firsts ++ p.seconds).all gy = false := List.all_eq_false.2 ⟨r, hpre.subset (by simp), by rw [h]; simp⟩
  rw [this]; simp
 have : ¬ ((p.firsts ++ p.seconds).map (·.id)).Nodup := fun hn => by
  have h2 := hn.sublist (List.Sublist.map (·.id) hpre.sublist)
  rw [List.map_append, List.nodup_append] at h2
  exact h2.2.2 _ h r.id (by simp) rfl
 rw [decide_eq_false this]; simp
theorem ukf {p : ah} {b : Bool} (h : ¬ (dv p b).length ≤ 3) : gg p = false := by
 unfold gg jt
 cases b
 ·rw [decide_eq_false (show ¬ p.firsts.length ≤ 3 from h)]; simp
 rw [decide_eq_false (show ¬ p.seconds.length ≤ 3 from h)]; simp
theorem uiv {p : ah} (h : ¬ p.pages.length ≤ 8) : gg p = false := by
 unfold gg
 rw [decide_eq_false h]; simp
theorem uld {l : List bw} (r : bw) : j4 (ir (l.map (·.id))) r.id (.v (.bool true)) = ir ((l ++ [r]).map (·.id)) := by
 funext x
 unfold j4 ir
 rw [List.map_append]
 by_cases hx : x = r.id
 ·simp [hx]
 simp [hx]
/-- a side of a page is as it may be -/
def ru (p : ah) (x : aw) (b : Bool) : Bool := inB (eh b x) (-1) (((dv p b).length : Int) - 1) && ig p.text x (eh b x) (dr b x)
def pk (p : ah) (last : Int) (x : aw) : Bool := decide (last < x.fr) && decide (x.fr ≤ x.to) && decide (x.to < (l8 p.text : Int))
def ot (p : ah) (last : Int) (x : aw) : Nat → Bool
 | 0 => pk p last x
 | k + 1 => ot p last x k && ru p x (decide (k = 1))
theorem uhf (p : ah) (last : Int) (x : aw) : ot p last x 2 = ll p last x := by
 show ((pk p last x && ru p x false) && ru p x true) = _
 unfold pk ru ll
 cases decide (last < x.fr) <;> cases decide (x.fr ≤ x.to) <;> cases decide (x.to < (l8 p.text : Int)) <;> simp [dv, eh, dr, Bool.and_assoc]
/-- where proofs are opened -/
def ju (p : ah) : C := bif decide (cv p = 0) then .elem [lst p.text, lst p.firsts, lst p.seconds, lst p.pages, lst (p.pages.map fun x => (dm p.text x : Int)), lst (p.pages.map (cr p.text)), lst (p.pages.map (dj p.text))] else .v (.pointer none)
theorem ub6 (m : Nat) (p : ah) : C.low m (ju p) := by
 unfold ju
 cases decide (cv p = 0)
 ·exact .v
 refine .elem fun c hc => ?_
 simp only [List.mem_cons, List.not_mem_nil, or_false] at hc
 rcases hc with rfl | rfl | rfl | rfl | rfl | rfl | rfl <;> exact ca m _
theorem uv {p : ah} (h : cv p = 0) : ju p = .elem [lst p.text, lst p.firsts, lst p.seconds, lst p.pages, lst (p.pages.map fun x => (dm p.text x : Int)), lst (p.pages.map (cr p.text)), lst (p.pages.map (dj p.text))] := by unfold ju; rw [decide_eq_true h]; rfl
theorem se {p : ah} (h : cv p ≠ 0) : ju p = .v (.pointer none) := by unfold ju; rw [decide_eq_false h]; rfl
theorem w8 {α : Type} {l : List α} {k : Nat} {x : α} (h : l[k]? = some x) : l.take (k + 1) = l.take k ++ [x] := by rw [List.take_add_one, h]; rfl
theorem nil_len {α : Type} {l : List α} : l = [] ↔ (l.length : Int) = 0 := by
 constructor
 ·rintro rfl; rfl
 intro h; exact List.eq_nil_of_length_eq_zero (by omega)
theorem ja {t : ai} {x : aw} {l : List PlaceD} {i : Nat} {q : PlaceD} (h : l[i]? = some q) : jm t x l i = (fw t q && ib t x q && (decide (i = 0) || match l[i - 1]? with | none => true | some a => mj a q)) := by unfold jm; rw [h]; rfl
theorem umq {p : ah} (h : dz p.text = false) : cv p = 10 := by unfold cv; rw [h]; rfl
theorem v6 {p : ah} (h : dz p.text = true) (hp : gg p = false) : cv p = 90 := by unfold cv; rw [h, hp]; rfl
theorem umr {p : ah} (h : dz p.text = true) (hp : gg p = true) : cv p = 0 := by unfold cv; rw [h, hp]; rfl
end Go.AB
namespace Go.Proofs.YtbbdginipiljdaaGreatDoor
set_option maxRecDepth 10000
open Go Go.RowKit Go.AB
open Go.AB.Enc (cells)
open Go.PB (ba ai PlaceD bh bj bi bw aw ah cw br dg dl)
set_option maxHeartbeats 4000000 in
theorem nm (n : Nat) (p : ah) : fa n ez Tryz.prog 47 [val p] (.tup [ju p, .v (.int .i64 (cv p))]) := fun G nx hF hnx => by
 refine ij (G) (nx) Tryz.func47 rfl (.tup (co (ub6 _ _) (co .v dn))) zN (fun hlt => zH) ?_
 simp only [Tryz.ntmps47, List.length_cons, List.length_nil, Nat.reduceAdd, Nat.reduceSub]
 refine cc fun hlt => ?_
 dsimp only at hlt
 refine yS fun _ K1 => ?_
 refine yR ?_
 try dsimp only [St.put]
 refine yB rfl rfl rfl ?_
 refine yA rfl rfl ?_
 refine yA rfl rfl ?_
 refine yN ?_
 dsimp only [St.put]
 refine K1 _ ?_
 refine ue2 ?_
 refine yS fun _ K2 => ?_
 refine yS fun _ K3 => ?_
 refine yR ?_
 refine yF rfl rfl rfl rfl ?_
 try dsimp only [St.put]
 refine ck rfl (c := i9 p.text) (j0 (cs := cells p) rfl rfl (show 1 ≤ 4 by decide)) ?_
 try dsimp only [St.put]
 refine af rfl (bc rfl rfl rfl (ukw p.text) ?_)
 refine yA rfl rfl ?_
 refine yN ?_
 dsimp only [St.put]
 refine K3 _ ?_
 refine yS fun _ K4 => ?_
 refine yR ?_
 refine yM rfl rfl ?_
 refine aa rfl (fl rfl rfl rfl) ?_
 refine yN ?_
 dsimp only [St.put]
 refine K4 _ ?_
 refine av rfl (fun hc => ?_) (fun hc => ?_)
 ·have ht : dz p.text = false := by
   have h0 := jl hc
   unfold i7 at h0
   cases h1 : dz p.text
   ·rfl
   rw [h1] at h0; exact absurd rfl h0
  have hE : cv p = 10 := umq ht
  have hR : i7 p.text = 10 := by simp [i7, ht]
  refine yS fun _ K5 => ?_
  refine yR ?_
  refine yM rfl rfl ?_
  refine yA rfl rfl ?_
  refine yA rfl rfl ?_
  refine yN ?_
  dsimp only [St.put]
  refine K5 _ ?_
  refine ax ?_
  refine j7 rfl (by constructor) (by constructor) zN zS ?_ ?_
  ·rw [se (by rw [hE]; decide)]
  rw [hE, hR]
 have ht : dz p.text = true := by
  have h0 := ie hc
  unfold i7 at h0
  cases h1 : dz p.text
  ·rw [h1] at h0; cases h0
  rfl
 obtain ⟨hl1, hl2, hl3⟩ := lj ht
 have hll : l8 p.text ≤ 60 := ud ht _ (Nat.le_refl _)
 refine ay ?_
 refine K2 _ ?_
 refine yS fun _ K6 => ?_
 refine yR ?_
 refine yF rfl rfl rfl rfl ?_
 try dsimp only [St.put]
 refine ck rfl (c := i9 p.text) (j0 (cs := cells p) rfl rfl (show 1 ≤ 4 by decide)) ?_
 try dsimp only [St.put]
 refine af rfl (bc rfl rfl rfl (ui6 p.text ht) ?_)
 refine yM rfl rfl ?_
 refine yX rfl rfl rfl rfl ?_
 refine yX rfl rfl rfl rfl ?_
 refine yA rfl rfl ?_
 refine yA rfl rfl ?_
 refine yN ?_
 dsimp only [St.put]
 refine K6 _ ?_
 refine yS fun _ K7 => ?_
 refine yR ?_
 try dsimp only [St.put]
 refine af rfl (y6 (α := Int) rfl ?_)
 refine yA rfl rfl ?_
 refine yN ?_
 dsimp only [St.put]
 refine K7 _ ?_
 refine yS fun _ K8 => ?_
 refine yS fun _ K9 => ?_
 refine yR ?_
 try dsimp only [St.put]
 refine ck rfl (mq (n := 6) (m := n) rfl rfl zG rfl) ?_
 refine yM rfl rfl ?_
 refine yN ?_
 dsimp only [St.put]
 refine K9 _ ?_
 refine bg ?_
 refine ct 38 ?_
 refine zQ ?_
 refine dd (ak G nx (iv Tryz.prog 3 0 fun _ => none)) zX ?_
 dsimp only
 refine dc (X := Nat) (fun k => k ≤ 2 ∧ okR (g4 p k) ∧ ((0 < k → p.firsts.length ≤ 3) ∧ (1 < k → p.seconds.length ≤ 3))) (fun k => 2 - k) (fun k => [(9, .any), (11, .any), (37, .v (.int .i64 (k : Int)))]) (fun k G' => (ak G (nx) (iv Tryz.prog 3 (((g4 p k).length)) (ir (((g4 p k)).map (·.id)))))) 0 rfl ?_ ?_ ?_ ?_ ?_ ?_
 ·exact ⟨by omega, ⟨rfl, List.nodup_nil⟩, fun h => absurd h (Nat.lt_irrefl _), fun h => by omega⟩
 ·exact zF
 ·rw [show ir ((g4 p 0).map (·.id)) = fun _ => none from udf]
  exact zX
 ·rintro k hI
  exact (by (try dsimp only); repeat' (first | exact trivial | refine ⟨?_, ?_⟩ | exact .v | exact .any | refine .elem ?_ | exact ca _ _ | exact fq _ _ | exact el _ _ | exact fy _ (by (try dsimp only); omega) | exact .box (by (try dsimp only); omega) | exact fk | exact dn | exact iu (jv _ _) | refine ga ?_ ?_ | exact .arr (by (try dsimp only); omega) | exact .own (by (try dsimp only); omega) | exact .map (by (try dsimp only); omega) | exact fe _ | refine co ?_ ?_ | exact ca _ _))
 ·rintro k hI
  exact (by (repeat' (refine la ?_ (by (try dsimp only); omega) ?_)); all_goals (first | exact ld zS | (repeat' (first | exact trivial | refine ⟨?_, ?_⟩ | exact .v | exact .any | refine .elem ?_ | exact ca _ _ | exact fq _ _ | exact el _ _ | exact fy _ (by (try dsimp only); omega) | exact .box (by (try dsimp only); omega) | exact fk | exact dn | exact iu (jv _ _) | refine ga ?_ ?_ | exact .arr (by (try dsimp only); omega) | exact .own (by (try dsimp only); omega) | exact .map (by (try dsimp only); omega) | exact fe _ | refine co ?_ ?_ | exact ca _ _))))
 rintro k hI
 dsimp only at hI ⊢
 refine yS fun _ K10 => ?_
 refine yR ?_
 refine aa rfl (cp rfl rfl rfl) ?_
 refine yN ?_
 dsimp only [St.put]
 refine K10 _ ?_
 refine yS fun _ K11 => ?_
 refine av rfl (fun hc => ?_) (fun hc => ?_)
 ·replace hc := of_decide_eq_true hc
  have hk : k < 2 := by omega
  refine ay ?_
  refine K11 _ ?_
  refine yS fun _ K12 => ?_
  refine bg ?_
  refine yS fun _ K13 => ?_
  refine yR ?_
  refine aa rfl (uy (k := k) (m := 2) (sz := 3) rfl rfl rfl rfl hk (uh hk)) ?_
  try dsimp only [St.put]
  refine af rfl (dx rfl ?_)
  try dsimp only [St.put]
  refine af rfl (dh rfl rfl rfl zG rfl rfl (by rfl) ?_)
  refine yN ?_
  dsimp only [St.put]
  refine K13 _ ?_
  refine gh (i := 9) rfl zG zC ?_
  dsimp only
  refine yS fun _ K14 => ?_
  refine yS fun _ K15 => ?_
  refine yR ?_
  refine yF rfl rfl rfl rfl ?_
  refine yL rfl rfl rfl ?_
  refine yE rfl rfl rfl ?_
  try dsimp only [St.put]
  refine af rfl (bc rfl rfl rfl (ou (decide (k = 1)) p) ?_)
  refine aa rfl (bp rfl rfl (List.length_map _)) ?_
  refine aa rfl (il rfl rfl rfl) ?_
  refine yN ?_
  dsimp only [St.put]
  refine K15 _ ?_
  refine av rfl (fun hc => ?_) (fun hc => ?_)
  ·have hs3 : ¬ (dv p (decide (k = 1))).length ≤ 3 := by
    have := of_decide_eq_true hc
    omega
   have hE : cv p = 90 := v6 ht (ukf hs3)
   refine yS fun _ K16 => ?_
   refine yR ?_
   refine yA rfl rfl ?_
   refine yA rfl rfl ?_
   refine yN ?_
   dsimp only [St.put]
   refine K16 _ ?_
   refine ax ?_
   refine j7 rfl (by constructor) (by constructor) zN zS ?_ ?_
   ·rw [se (by rw [hE]; decide)]
   rw [hE]
  have hs3 : (dv p (decide (k = 1))).length ≤ 3 := by
   have := of_decide_eq_false hc
   omega
  refine ay ?_
  refine K14 _ ?_
  refine yS fun _ K17 => ?_
  refine yR ?_
  refine yF rfl rfl rfl rfl ?_
  refine yL rfl rfl rfl ?_
  refine yE rfl rfl rfl ?_
  try dsimp only [St.put]
  refine af rfl (bc rfl rfl rfl (ou (decide (k = 1)) p) ?_)
  refine aa rfl (bp rfl rfl (List.length_map _)) ?_
  refine yM rfl rfl ?_
  refine yN ?_
  dsimp only [St.put]
  rw [show ir ((g4 p k).map (·.id)) = ir ((g4 p k ++ (dv p (decide (k = 1))).take 0).map (·.id)) by simp]
  refine K17 _ ?_
  refine bg ?_
  refine ct 52 ?_
  refine zQ ?_
  refine dd ((ak G (nx) (iv Tryz.prog 3 (((g4 p k).length)) (ir (((g4 p k ++ (dv p (decide (k = 1))).take 0)).map (·.id)))))) zX ?_
  dsimp only
  refine dc (X := Nat) (fun i => i ≤ (dv p (decide (k = 1))).length ∧ okR (g4 p k ++ (dv p (decide (k = 1))).take i)) (fun i => (dv p (decide (k = 1))).length - i) (fun i => [(11, .any), (51, .v (.int .i64 (i : Int)))]) (fun i G' => (ak G (nx) (iv Tryz.prog 3 (((g4 p k ++ (dv p (decide (k = 1))).take i).length)) (ir (((g4 p k ++ (dv p (decide (k = 1))).take i)).map (·.id)))))) 0 rfl ?_ ?_ ?_ ?_ ?_ ?_
  ·exact ⟨Nat.zero_le _, by simpa using hI.2.1⟩
  ·exact zF
  ·rw [show (g4 p k ++ (dv p (decide (k = 1))).take 0).length = (g4 p k).length by simp]
   exact zX
  ·rintro i hI
   exact (by (try dsimp only); repeat' (first | exact trivial | refine ⟨?_, ?_⟩ | exact .v | exact .any | refine .elem ?_ | exact ca _ _ | exact fq _ _ | exact el _ _ | exact fy _ (by (try dsimp only); omega) | exact .box (by (try dsimp only); omega) | exact fk | exact dn | exact iu (jv _ _) | refine ga ?_ ?_ | exact .arr (by (try dsimp only); omega) | exact .own (by (try dsimp only); omega) | exact .map (by (try dsimp only); omega) | exact fe _ | refine co ?_ ?_ | exact ca _ _))
  ·rintro i hI
   exact (by (repeat' (refine la ?_ (by (try dsimp only); omega) ?_)); all_goals (first | exact ld zS | (repeat' (first | exact trivial | refine ⟨?_, ?_⟩ | exact .v | exact .any | refine .elem ?_ | exact ca _ _ | exact fq _ _ | exact el _ _ | exact fy _ (by (try dsimp only); omega) | exact .box (by (try dsimp only); omega) | exact fk | exact dn | exact iu (jv _ _) | refine ga ?_ ?_ | exact .arr (by (try dsimp only); omega) | exact .own (by (try dsimp only); omega) | exact .map (by (try dsimp only); omega) | exact fe _ | refine co ?_ ?_ | exact ca _ _))))
  rintro i hJ
  dsimp only at hJ ⊢
  refine yS fun _ K18 => ?_
  refine yR ?_
  refine aa rfl (cp rfl rfl rfl) ?_
  refine yN ?_
  dsimp only [St.put]
  refine K18 _ ?_
  refine yS fun _ K19 => ?_
  refine av rfl (fun hc => ?_) (fun hc => ?_)
  ·replace hc := of_decide_eq_true hc
   obtain ⟨r, hr⟩ : ∃ r, (dv p (decide (k = 1)))[i]? = some r := dp (by omega)
   obtain ⟨L, hL⟩ : ∃ L, g4 p k ++ (dv p (decide (k = 1))).take i = L := ⟨_, rfl⟩
   refine ay ?_
   refine K19 _ ?_
   refine yS fun _ K20 => ?_
   refine bg ?_
   refine yS fun _ K21 => ?_
   refine yR ?_
   refine aa rfl (bx rfl rfl rfl rfl (bv (by assumption)) (Enc.len _)) ?_
   refine yE rfl rfl rfl ?_
   try dsimp only [St.put]
   refine af rfl (dx rfl ?_)
   try dsimp only [St.put]
   refine af rfl (dh rfl rfl rfl zG rfl rfl (by rfl) ?_)
   refine yN ?_
   dsimp only [St.put]
   refine K21 _ ?_
   refine gh (i := 11) rfl zG zC ?_
   dsimp only
   refine yS fun _ K22 => ?_
   refine ct 52 ?_
   refine zQ ?_
   refine kr (X := Bool) (fun d => d = !(gy r && !decide (r.id ∈ (g4 p k ++ (dv p (decide (k = 1))).take i).map (·.id)))) (fun d => [(72, .v (.bool d))]) (fun d G' => G') rfl ?_ (fun _ _ _ _ h => .inl h) ?_ ?_
   ·rintro d hI
    exact (by (try dsimp only); repeat' (first | exact trivial | refine ⟨?_, ?_⟩ | exact .v | exact .any | refine .elem ?_ | exact ca _ _ | exact fq _ _ | exact el _ _ | exact fy _ (by (try dsimp only); omega) | exact .box (by (try dsimp only); omega) | exact fk | exact dn | exact iu (jv _ _) | refine ga ?_ ?_ | exact .arr (by (try dsimp only); omega) | exact .own (by (try dsimp only); omega) | exact .map (by (try dsimp only); omega) | exact fe _ | refine co ?_ ?_ | exact ca _ _))
   ·refine yR ?_
    refine yF rfl rfl rfl rfl ?_
    refine yL rfl rfl rfl ?_
    try dsimp only [St.put]
    refine af rfl (b9 rfl rfl rfl (by decide) (by decide) zR (by decide) ?_)
    try dsimp only [St.put]
    refine af rfl (bc rfl rfl rfl (mu _ _ [_]) ?_)
    refine aa rfl (d7 rfl rfl) ?_
    refine yM rfl rfl ?_
    refine ff (fun hs => ?_) (fun hs => ?_)
    ·have h5 : inB r.id 0 9999 = false := by rw [gn] at hs; simpa using hs
     refine yK rfl ?_
     refine yK rfl ?_
     refine yK rfl ?_
     refine yK rfl ?_
     refine aa rfl (ci rfl rfl (by constructor)) ?_
     refine yM rfl rfl ?_
     refine yK rfl ?_
     refine yK rfl ?_
     refine yK rfl ?_
     refine yK rfl ?_
     refine yK rfl ?_
     refine aa rfl (ci rfl rfl (by constructor)) ?_
     refine yN ?_
     dsimp only [St.put]
     refine ⟨_, ?_, ⟨⟨rfl, rfl⟩, zF, zB, zN, zX⟩⟩
     unfold gy
     first
     | (rw [h5]; simp; done)
     | (rw [decide_eq_true h11]; simp; done)
     | (rw [h5, decide_eq_false h11, gn]; simp)
    have h5 : inB r.id 0 9999 = true := by rw [gn] at hs; simpa using hs
    refine yM rfl rfl ?_
    refine yF rfl rfl rfl rfl ?_
    refine yL rfl rfl rfl ?_
    try dsimp only [St.put]
    refine ck rfl (uk r.id rfl rfl zG trivial rfl (udg _ _)) ?_
    refine aa rfl (c5 rfl rfl (by constructor)) ?_
    refine yM rfl rfl ?_
    refine ff (fun hs => ?_) (fun hs => ?_)
    ·have h11 := of_decide_eq_true hs
     refine yK rfl ?_
     refine yK rfl ?_
     refine yK rfl ?_
     refine yK rfl ?_
     refine yK rfl ?_
     refine aa rfl (ci rfl rfl (by constructor)) ?_
     refine yN ?_
     dsimp only [St.put]
     refine ⟨_, ?_, ⟨⟨rfl, rfl⟩, zF, zB, zN, zX⟩⟩
     unfold gy
     first
     | (rw [h5]; simp; done)
     | (rw [decide_eq_true h11]; simp; done)
     | (rw [h5, decide_eq_false h11, gn]; simp)
    have h11 := of_decide_eq_false hs
    refine yF rfl rfl rfl rfl ?_
    refine yL rfl rfl rfl ?_
    try dsimp only [St.put]
    refine af rfl (b9 rfl rfl rfl (by decide) (by decide) zR (by decide) ?_)
    try dsimp only [St.put]
    refine af rfl (bc rfl rfl rfl (mu _ _ [_]) ?_)
    refine aa rfl (d7 rfl rfl) ?_
    refine aa rfl (c5 rfl rfl (by constructor)) ?_
    refine yN ?_
    dsimp only [St.put]
    refine ⟨_, ?_, ⟨⟨rfl, rfl⟩, zF, zB, zN, zX⟩⟩
    unfold gy
    first
    | (rw [h5]; simp; done)
    | (rw [decide_eq_true h11]; simp; done)
    | (rw [h5, decide_eq_false h11, gn]; simp)
   rintro d hst
   dsimp only at hst ⊢
   refine av rfl (fun hc => ?_) (fun hc => ?_)
   ·have hbad : gy r = false ∨ r.id ∈ (g4 p k ++ (dv p (decide (k = 1))).take i).map (·.id) := by
     rw [hc] at hst
     cases h1 : gy r
     ·exact .inl rfl
     rw [h1] at hst
     right
     exact Classical.byContradiction fun h2 => by rw [decide_eq_false h2] at hst; cases hst
    have hE : cv p = 90 := v6 ht (uii hk hr hbad)
    refine yS fun _ K24 => ?_
    refine yR ?_
    refine yA rfl rfl ?_
    refine yA rfl rfl ?_
    refine yN ?_
    dsimp only [St.put]
    refine K24 _ ?_
    refine ax ?_
    refine j7 rfl (by constructor) (by constructor) zN zS ?_ ?_
    ·rw [se (by rw [hE]; decide)]
    rw [hE]
   have hgood : gy r = true ∧ r.id ∉ (g4 p k ++ (dv p (decide (k = 1))).take i).map (·.id) := by
    rw [hc] at hst
    cases h1 : gy r
    ·rw [h1] at hst; cases hst
    rw [h1] at hst
    exact ⟨rfl, fun h2 => by rw [decide_eq_true h2] at hst; cases hst⟩
   refine ay ?_
   refine K22 _ ?_
   refine yR ?_
   refine yM rfl rfl ?_
   refine yF rfl rfl rfl rfl ?_
   refine yL rfl rfl rfl ?_
   try dsimp only [St.put]
   refine af rfl (tg (r.id) rfl rfl rfl zG rfl ((show j4 (ir ((g4 p k ++ (dv p (decide (k = 1))).take i).map (·.id))) r.id (.v (.bool true)) = ir ((g4 p k ++ (dv p (decide (k = 1))).take (i + 1)).map (·.id)) from by rw [w8 hr, ← List.append_assoc]; exact uld r)) ?_)
   refine yN ?_
   dsimp only [St.put]
   refine K20 _ ?_
   refine yR ?_
   refine aa rfl (bz rfl rfl rfl (by omega)) ?_
   refine yM rfl rfl ?_
   refine yN ?_
   dsimp only [St.put]
   rw [show (g4 p k ++ (dv p (decide (k = 1))).take i).length + 1 = (g4 p k ++ (dv p (decide (k = 1))).take (i + 1)).length by rw [w8 hr, ← List.append_assoc, List.length_append (bs := [r])]; rfl]
   exact ⟨i + 1, by omega, ⟨by omega, by rw [w8 hr, ← List.append_assoc]; exact ujo hJ.2 hgood.1 hgood.2⟩, ⟨⟨rfl, rfl⟩, zF, zB, zN, zX⟩⟩
  replace hc := of_decide_eq_false hc
  refine c7 ?_
  refine K12 _ ?_
  refine yR ?_
  refine aa rfl (bz rfl rfl rfl (by omega)) ?_
  refine yM rfl rfl ?_
  refine yN ?_
  dsimp only [St.put]
  rw [show g4 p k ++ (dv p (decide (k = 1))).take i = g4 p (k + 1) by rw [uhs hk, f8 (by omega)]] at hJ ⊢
  exact ⟨k + 1, by omega, ⟨by omega, hJ.2, by
   have h3 := hI.2.2
   by_cases e : k = 0
   ·subst e; exact ⟨fun _ => hs3, fun h => by omega⟩
   have e1 : k = 1 := by omega
   subst e1; exact ⟨fun _ => h3.1 (by omega), fun _ => hs3⟩⟩, ⟨⟨rfl, rfl⟩, zF, zB, zN, zX⟩⟩
 replace hc := of_decide_eq_false hc
 obtain rfl : k = 2 := by omega
 have hRB : jt p = true := by
  unfold jt
  have h2 := hI.2.1
  have h3 := hI.2.2
  rw [decide_eq_true (h3.1 (by omega)), decide_eq_true (h3.2 (by omega)), show (p.firsts ++ p.seconds).all gy = true from h2.1, decide_eq_true (show ((p.firsts ++ p.seconds).map (·.id)).Nodup from h2.2)]; rfl
 have hn1 : p.firsts.length ≤ 3 := hI.2.2.1 (by omega)
 have hn2 : p.seconds.length ≤ 3 := hI.2.2.2 (by omega)
 have hsl : ∀ b, (dv p b).length ≤ 3 := fun b => by cases b; exact hn1; exact hn2
 refine c7 ?_
 refine K8 _ ?_
 refine yS fun _ K25 => ?_
 refine yS fun _ K26 => ?_
 refine yR ?_
 refine yF rfl rfl rfl rfl ?_
 refine yL rfl rfl rfl ?_
 refine aa rfl (bp rfl rfl (List.length_map _)) ?_
 refine aa rfl (il rfl rfl rfl) ?_
 refine yN ?_
 dsimp only [St.put]
 refine K26 _ ?_
 refine av rfl (fun hc => ?_) (fun hc => ?_)
 ·have hnp : ¬ p.pages.length ≤ 8 := by
   have := of_decide_eq_true hc
   omega
  have hE : cv p = 90 := v6 ht (uiv hnp)
  refine yS fun _ K27 => ?_
  refine yR ?_
  refine yA rfl rfl ?_
  refine yA rfl rfl ?_
  refine yN ?_
  dsimp only [St.put]
  refine K27 _ ?_
  refine ax ?_
  refine j7 rfl (by constructor) (by constructor) zN zS ?_ ?_
  ·rw [se (by rw [hE]; decide)]
  rw [hE]
 have hnp : p.pages.length ≤ 8 := by
  have := of_decide_eq_false hc
  omega
 refine ay ?_
 refine K25 _ ?_
 refine yS fun _ K28 => ?_
 refine yR ?_
 refine yE rfl rfl rfl ?_
 refine aa rfl (ip rfl rfl) ?_
 try dsimp only [St.put]
 refine af rfl (y8 rfl rfl ?_)
 refine yA rfl rfl ?_
 refine yN ?_
 dsimp only [St.put]
 refine K28 _ ?_
 refine n8 (nx + 1) 4 _ _ 3 1 zG rfl (by decide) ?_
 refine n8 (nx + 1) 5 _ _ 56 1 zG rfl (by decide) ?_
 refine n8 (nx + 1) 6 _ _ 56 1 zG rfl (by decide) ?_
 dsimp only [List.set_cons_zero, List.set_cons_succ]
 refine yS fun _ K29 => ?_
 refine yR ?_
 refine yA rfl rfl ?_
 refine yN ?_
 dsimp only [St.put]
 refine K29 _ ?_
 refine yS fun _ K30 => ?_
 refine yR ?_
 refine yA rfl rfl ?_
 refine yN ?_
 dsimp only [St.put]
 refine K30 _ ?_
 refine yS fun _ K31 => ?_
 refine ue5 ?_
 refine K31 _ ?_
 refine yS fun _ K32 => ?_
 refine yS fun _ K33 => ?_
 refine yR ?_
 refine yF rfl rfl rfl rfl ?_
 refine yL rfl rfl rfl ?_
 refine aa rfl (bp rfl rfl (List.length_map _)) ?_
 refine yM rfl rfl ?_
 refine yN ?_
 dsimp only [St.put]
 refine K33 _ ?_
 refine bg ?_
 refine ct 89 ?_
 refine zQ ?_
 refine dd ((ak (ak (ak (ak G (nx + 1) (.box (0 + 0 + 0) [lst p.text, lst p.firsts, lst p.seconds, lst p.pages, .list (((p.pages.take 0).map fun x => (dm p.text x : Int)).map cells) (.tip (nx + 1 + 1)), .list (((p.pages.take 0).map (cr p.text)).map cells) (.tip (nx + 1 + 1 + 1)), .list (((p.pages.take 0).map (dj p.text)).map cells) (.tip (nx + 1 + 1 + 1 + 1))])) (nx + 1 + 1) (.tip ((p.pages.take 0).map fun x => (dm p.text x : Int)).length 3 1)) (nx + 1 + 1 + 1) (.tip ((p.pages.take 0).map (cr p.text)).length 56 1)) (nx + 1 + 1 + 1 + 1) (.tip ((p.pages.take 0).map (dj p.text)).length 56 1))) zX ?_
 dsimp only
 refine dc (X := Nat) (fun j => j ≤ p.pages.length ∧ pm p j = true) (fun j => p.pages.length - j) (fun j => [(13, .v (.int .i64 (im p.pages j))), (16, .any), (18, .any), (19, .any), (20, .any), (21, .any), (22, .any), (88, .v (.int .i64 (j : Int)))]) (fun j G' => (ak (ak (ak (ak G (nx + 1) (.box (j + j + j) [lst p.text, lst p.firsts, lst p.seconds, lst p.pages, .list (((p.pages.take j).map fun x => (dm p.text x : Int)).map cells) (.tip (nx + 1 + 1)), .list (((p.pages.take j).map (cr p.text)).map cells) (.tip (nx + 1 + 1 + 1)), .list (((p.pages.take j).map (dj p.text)).map cells) (.tip (nx + 1 + 1 + 1 + 1))])) (nx + 1 + 1) (.tip ((p.pages.take j).map fun x => (dm p.text x : Int)).length 3 1)) (nx + 1 + 1 + 1) (.tip ((p.pages.take j).map (cr p.text)).length 56 1)) (nx + 1 + 1 + 1 + 1) (.tip ((p.pages.take j).map (dj p.text)).length 56 1))) 0 rfl ?_ ?_ ?_ ?_ ?_ ?_
 ·exact ⟨Nat.zero_le _, rfl⟩
 ·exact zF
 ·exact zX
 ·rintro j hI
  exact (by (try dsimp only); repeat' (first | exact trivial | refine ⟨?_, ?_⟩ | exact .v | exact .any | refine .elem ?_ | exact ca _ _ | exact fq _ _ | exact el _ _ | exact fy _ (by (try dsimp only); omega) | exact .box (by (try dsimp only); omega) | exact fk | exact dn | exact iu (jv _ _) | refine ga ?_ ?_ | exact .arr (by (try dsimp only); omega) | exact .own (by (try dsimp only); omega) | exact .map (by (try dsimp only); omega) | exact fe _ | refine co ?_ ?_ | exact ca _ _))
 ·rintro j hI
  exact (by (repeat' (refine la ?_ (by (try dsimp only); omega) ?_)); all_goals (first | exact ld zS | (repeat' (first | exact trivial | refine ⟨?_, ?_⟩ | exact .v | exact .any | refine .elem ?_ | exact ca _ _ | exact fq _ _ | exact el _ _ | exact fy _ (by (try dsimp only); omega) | exact .box (by (try dsimp only); omega) | exact fk | exact dn | exact iu (jv _ _) | refine ga ?_ ?_ | exact .arr (by (try dsimp only); omega) | exact .own (by (try dsimp only); omega) | exact .map (by (try dsimp only); omega) | exact fe _ | refine co ?_ ?_ | exact ca _ _))))
 rintro j hK
 dsimp only at hK ⊢
 refine yS fun _ K34 => ?_
 refine yR ?_
 refine aa rfl (cp rfl rfl rfl) ?_
 refine yN ?_
 dsimp only [St.put]
 refine K34 _ ?_
 refine yS fun _ K35 => ?_
 refine av rfl (fun hc => ?_) (fun hc => ?_)
 ·replace hc := of_decide_eq_true hc
  obtain ⟨x, hx⟩ : ∃ x, p.pages[j]? = some x := dp (by omega)
  refine ay ?_
  refine K35 _ ?_
  refine yS fun _ K36 => ?_
  refine bg ?_
  refine yS fun _ K37 => ?_
  refine yR ?_
  refine aa rfl (bx rfl rfl rfl rfl (bv (by assumption)) (Enc.len _)) ?_
  refine yE rfl rfl rfl ?_
  try dsimp only [St.put]
  refine af rfl (dx rfl ?_)
  try dsimp only [St.put]
  refine af rfl (dh rfl rfl rfl zG rfl rfl (by rfl) ?_)
  refine yN ?_
  dsimp only [St.put]
  refine K37 _ ?_
  refine gh (i := 16) rfl zG zC ?_
  dsimp only
  refine ct 89 ?_
  refine zQ ?_
  refine kr (X := Bool) (fun d0 => d0 = pk p (im p.pages j) x) (fun d0 => [(14, .v (.bool d0))]) (fun d0 G' => G') rfl ?_ (fun _ _ _ _ h => .inl h) ?_ ?_
  ·rintro d0 hI
   exact (by (try dsimp only); repeat' (first | exact trivial | refine ⟨?_, ?_⟩ | exact .v | exact .any | refine .elem ?_ | exact ca _ _ | exact fq _ _ | exact el _ _ | exact fy _ (by (try dsimp only); omega) | exact .box (by (try dsimp only); omega) | exact fk | exact dn | exact iu (jv _ _) | refine ga ?_ ?_ | exact .arr (by (try dsimp only); omega) | exact .own (by (try dsimp only); omega) | exact .map (by (try dsimp only); omega) | exact fe _ | refine co ?_ ?_ | exact ca _ _))
  ·refine yR ?_
   refine yF rfl rfl rfl rfl ?_
   refine yL rfl rfl rfl ?_
   refine yM rfl rfl ?_
   refine aa rfl (il rfl rfl rfl) ?_
   refine yM rfl rfl ?_
   refine ff (fun hs => ?_) (fun hs => ?_)
   ·have z1 : im p.pages j < x.fr := of_decide_eq_true hs
    refine yF rfl rfl rfl rfl ?_
    refine yL rfl rfl rfl ?_
    refine yF rfl rfl rfl rfl ?_
    refine yL rfl rfl rfl ?_
    refine aa rfl (sj rfl rfl rfl) ?_
    refine aa rfl (ci rfl rfl (by constructor)) ?_
    refine yM rfl rfl ?_
    refine ff (fun hs => ?_) (fun hs => ?_)
    ·have z2 : x.fr ≤ x.to := of_decide_eq_true hs
     refine yF rfl rfl rfl rfl ?_
     refine yL rfl rfl rfl ?_
     refine yM rfl rfl ?_
     refine aa rfl (cp rfl rfl rfl) ?_
     refine aa rfl (ci rfl rfl (by constructor)) ?_
     refine yA rfl rfl ?_
     refine yN ?_
     dsimp only [St.put]
     refine ⟨_, ?_, ⟨⟨rfl, rfl⟩, zF, zB, zN, zX⟩⟩
     unfold pk
     first
     | (simp [z1]; done)
     | (simp [z1, z2]; done)
     | (simp [z1]; omega)
    have z2 : ¬ x.fr ≤ x.to := of_decide_eq_false hs
    refine yK rfl ?_
    refine yK rfl ?_
    refine yK rfl ?_
    refine yK rfl ?_
    refine aa rfl (c5 rfl rfl (by constructor)) ?_
    refine yA rfl rfl ?_
    refine yN ?_
    dsimp only [St.put]
    refine ⟨_, ?_, ⟨⟨rfl, rfl⟩, zF, zB, zN, zX⟩⟩
    unfold pk
    first
    | (simp [z1]; done)
    | (simp [z1, z2]; done)
    | (simp [z1]; omega)
   have z1 : ¬ im p.pages j < x.fr := of_decide_eq_false hs
   refine yK rfl ?_
   refine yK rfl ?_
   refine yK rfl ?_
   refine yK rfl ?_
   refine yK rfl ?_
   refine aa rfl (c5 rfl rfl (by constructor)) ?_
   refine yM rfl rfl ?_
   refine yK rfl ?_
   refine yK rfl ?_
   refine yK rfl ?_
   refine yK rfl ?_
   refine aa rfl (c5 rfl rfl (by constructor)) ?_
   refine yA rfl rfl ?_
   refine yN ?_
   dsimp only [St.put]
   refine ⟨_, ?_, ⟨⟨rfl, rfl⟩, zF, zB, zN, zX⟩⟩
   unfold pk
   first
   | (simp [z1]; done)
   | (simp [z1, z2]; done)
   | (simp [z1]; omega)
  rintro d0 hst0
  dsimp only at hst0 ⊢
  subst hst0
  refine yS fun _ K39 => ?_
  refine yS fun _ K40 => ?_
  refine yR ?_
  try dsimp only [St.put]
  refine ck rfl (mq (n := 6) (m := n) rfl rfl zG rfl) ?_
  refine yM rfl rfl ?_
  refine yN ?_
  dsimp only [St.put]
  refine K40 _ ?_
  refine bg ?_
  refine ct 111 ?_
  refine zQ ?_
  refine dd ((ak (ak (ak (ak G (nx + 1) (.box (j + j + j) [lst p.text, lst p.firsts, lst p.seconds, lst p.pages, .list (((p.pages.take j).map fun x => (dm p.text x : Int)).map cells) (.tip (nx + 1 + 1)), .list (((p.pages.take j).map (cr p.text)).map cells) (.tip (nx + 1 + 1 + 1)), .list (((p.pages.take j).map (dj p.text)).map cells) (.tip (nx + 1 + 1 + 1 + 1))])) (nx + 1 + 1) (.tip ((p.pages.take j).map fun x => (dm p.text x : Int)).length 3 1)) (nx + 1 + 1 + 1) (.tip ((p.pages.take j).map (cr p.text)).length 56 1)) (nx + 1 + 1 + 1 + 1) (.tip ((p.pages.take j).map (dj p.text)).length 56 1))) zX ?_
  dsimp only
  refine dc (X := Nat) (fun k => k ≤ 2) (fun k => 2 - k) (fun k => [(14, .v (.bool (ot p (im p.pages j) x k))), (18, .any), (19, .any), (20, .any), (21, .any), (22, .any), (110, .v (.int .i64 (k : Int)))]) (fun k G' => G') 0 rfl ?_ ?_ (fun _ _ h => h) ?_ ?_ ?_
  ·exact Nat.zero_le _
  ·exact zF
  ·rintro k hI
   exact (by (try dsimp only); repeat' (first | exact trivial | refine ⟨?_, ?_⟩ | exact .v | exact .any | refine .elem ?_ | exact ca _ _ | exact fq _ _ | exact el _ _ | exact fy _ (by (try dsimp only); omega) | exact .box (by (try dsimp only); omega) | exact fk | exact dn | exact iu (jv _ _) | refine ga ?_ ?_ | exact .arr (by (try dsimp only); omega) | exact .own (by (try dsimp only); omega) | exact .map (by (try dsimp only); omega) | exact fe _ | refine co ?_ ?_ | exact ca _ _))
  ·exact fun _ _ _ _ h => .inl h
  rintro k hS
  dsimp only at hS ⊢
  refine yS fun _ K41 => ?_
  refine yR ?_
  refine aa rfl (cp rfl rfl rfl) ?_
  refine yN ?_
  dsimp only [St.put]
  refine K41 _ ?_
  refine yS fun _ K42 => ?_
  refine av rfl (fun hc => ?_) (fun hc => ?_)
  ·replace hc := of_decide_eq_true hc
   have hk2 : k < 2 := by omega
   have hslk := hsl (decide (k = 1))
   refine ay ?_
   refine K42 _ ?_
   refine yS fun _ K43 => ?_
   refine bg ?_
   refine yS fun _ K44 => ?_
   refine yR ?_
   refine aa rfl (uy (k := k) (m := 2) (sz := 3) rfl rfl rfl rfl hk2 (uh hk2)) ?_
   try dsimp only [St.put]
   refine af rfl (dx rfl ?_)
   try dsimp only [St.put]
   refine af rfl (dh rfl rfl rfl zG rfl rfl (by rfl) ?_)
   refine yN ?_
   dsimp only [St.put]
   refine K44 _ ?_
   refine gh (i := 18) rfl zG zC ?_
   dsimp only
   refine ct 111 ?_
   refine zQ ?_
   refine kr (X := Unit) (fun _ => True) (fun _ => [(19, .v (.int .i64 (eh (decide (k = 1)) x))), (20, lst (dr (decide (k = 1)) x))]) (fun _ G' => G') rfl ?_ (fun _ _ _ _ h => .inl h) ?_ ?_
   ·rintro _ hI
    exact (by (try dsimp only); repeat' (first | exact trivial | refine ⟨?_, ?_⟩ | exact .v | exact .any | refine .elem ?_ | exact ca _ _ | exact fq _ _ | exact el _ _ | exact fy _ (by (try dsimp only); omega) | exact .box (by (try dsimp only); omega) | exact fk | exact dn | exact iu (jv _ _) | refine ga ?_ ?_ | exact .arr (by (try dsimp only); omega) | exact .own (by (try dsimp only); omega) | exact .map (by (try dsimp only); omega) | exact fe _ | refine co ?_ ?_ | exact ca _ _))
   ·refine g7 [(0, none), (1, none), (2, none), (4, none), (5, none), (6, none), (3, none), (7, none), (8, none), (9, none)] (fun i => [7].contains i) (fun i => [3, 7].contains i) (fun i => [0, 4, 8, 9].contains i) [] (by kernel_rfl) (by kernel_rfl) ?_
    refine ae rfl rfl rfl rfl (cx rfl rfl rfl) ?_
    try dsimp only [St.put]
    refine bd rfl rfl rfl rfl (cm rfl rfl) ?_
    try dsimp only [St.put]
    refine bd rfl rfl rfl rfl (e8 rfl rfl (Enc.len _)) ?_
    refine ae rfl rfl rfl rfl (cx rfl rfl rfl) ?_
    try dsimp only [St.put]
    refine bd rfl rfl rfl rfl (cm rfl rfl) ?_
    try dsimp only [St.put]
    refine bd rfl rfl rfl rfl (e8 rfl rfl (Enc.len _)) ?_
    refine jo ?_
    try dsimp only [St.put]
    refine ka rfl rfl rfl (bc rfl rfl rfl (xh (decide (k = 1)) x) ⟨zD, ?_⟩)
    try dsimp only [St.put]
    refine g8 rfl rfl rfl rfl (bc rfl rfl rfl (uaz (decide (k = 1)) x) ?_)
    refine c8 rfl rfl rfl rfl (fp rfl (by constructor)) ?_
    refine c8 rfl rfl rfl rfl (fp rfl (by constructor)) ?_
    refine ji ?_
    dsimp only [St.put]
    exact ⟨(), trivial, ⟨⟨rfl, rfl⟩, zF, zB, zN, zX⟩⟩
   rintro _ h31
   dsimp only at h31 ⊢
   refine ct 111 ?_
   refine zQ ?_
   refine kr (X := Bool) (fun d => d = (ot p (im p.pages j) x k && (inB (eh (decide (k = 1)) x) (-1) (((dv p (decide (k = 1))).length : Int) - 1) && (decide (0 ≤ eh (decide (k = 1)) x) || decide (dr (decide (k = 1)) x = []))))) (fun d => [(14, .v (.bool d))]) (fun d G' => G') rfl ?_ (fun _ _ _ _ h => .inl h) ?_ ?_
   ·rintro d hI
    exact (by (try dsimp only); repeat' (first | exact trivial | refine ⟨?_, ?_⟩ | exact .v | exact .any | refine .elem ?_ | exact ca _ _ | exact fq _ _ | exact el _ _ | exact fy _ (by (try dsimp only); omega) | exact .box (by (try dsimp only); omega) | exact fk | exact dn | exact iu (jv _ _) | refine ga ?_ ?_ | exact .arr (by (try dsimp only); omega) | exact .own (by (try dsimp only); omega) | exact .map (by (try dsimp only); omega) | exact fe _ | refine co ?_ ?_ | exact ca _ _))
   ·refine yR ?_
    refine yM rfl rfl ?_
    refine yM rfl rfl ?_
    refine ff (fun hs => ?_) (fun hs => ?_)
    ·have s0 : ot p (im p.pages j) x k = true := hs
     refine yF rfl rfl rfl rfl ?_
     refine yL rfl rfl rfl ?_
     refine yE rfl rfl rfl ?_
     try dsimp only [St.put]
     refine af rfl (bc rfl rfl rfl (ou (decide (k = 1)) p) ?_)
     refine aa rfl (bp rfl rfl (List.length_map _)) ?_
     refine aa rfl (gt rfl rfl rfl (by omega)) ?_
     refine yM rfl rfl ?_
     try dsimp only [St.put]
     refine af rfl (b9 rfl rfl rfl (by decide) (by decide) zR (by decide) ?_)
     try dsimp only [St.put]
     refine af rfl (bc rfl rfl rfl (mu _ _ [_]) ?_)
     refine aa rfl (ci rfl rfl (by constructor)) ?_
     refine yM rfl rfl ?_
     refine ff (fun hs => ?_) (fun hs => ?_)
     ·have s1 : inB (eh (decide (k = 1)) x) (-1) (((dv p (decide (k = 1))).length : Int) - 1) = true := by rw [gn] at hs; exact hs
      refine yM rfl rfl ?_
      refine aa rfl (lp rfl rfl rfl) ?_
      refine yM rfl rfl ?_
      refine ff (fun hs => ?_) (fun hs => ?_)
      ·have s2 : 0 ≤ eh (decide (k = 1)) x := of_decide_eq_true hs
       refine yK rfl ?_
       refine yK rfl ?_
       refine yK rfl ?_
       refine aa rfl (ci rfl rfl (by constructor)) ?_
       refine aa rfl (ci rfl rfl (by constructor)) ?_
       refine yA rfl rfl ?_
       refine yN ?_
       dsimp only [St.put]
       refine ⟨_, ?_, ⟨⟨rfl, rfl⟩, zF, zB, zN, zX⟩⟩
       first
       | (rw [s0]; simp; done)
       | (rw [s0, s1]; simp; done)
       | (rw [s0, s1, decide_eq_true s2]; simp; done)
       | (rw [s0, s1, decide_eq_false s2, Bool.true_and, Bool.true_and, Bool.false_or, decide_eq_decide]; exact nil_len.symm)
      have s2 : ¬ 0 ≤ eh (decide (k = 1)) x := of_decide_eq_false hs
      refine yM rfl rfl ?_
      refine aa rfl (bp rfl rfl (List.length_map _)) ?_
      refine aa rfl (fm rfl rfl rfl) ?_
      refine aa rfl (c5 rfl rfl (by constructor)) ?_
      refine aa rfl (ci rfl rfl (by constructor)) ?_
      refine yA rfl rfl ?_
      refine yN ?_
      dsimp only [St.put]
      refine ⟨_, ?_, ⟨⟨rfl, rfl⟩, zF, zB, zN, zX⟩⟩
      first
      | (rw [s0]; simp; done)
      | (rw [s0, s1]; simp; done)
      | (rw [s0, s1, decide_eq_true s2]; simp; done)
      | (rw [s0, s1, decide_eq_false s2, Bool.true_and, Bool.true_and, Bool.false_or, decide_eq_decide]; exact nil_len.symm)
     have s1 : inB (eh (decide (k = 1)) x) (-1) (((dv p (decide (k = 1))).length : Int) - 1) = false := by rw [gn] at hs; exact hs
     refine yK rfl ?_
     refine yK rfl ?_
     refine yK rfl ?_
     refine yK rfl ?_
     refine yK rfl ?_
     refine yK rfl ?_
     refine yK rfl ?_
     refine aa rfl (c5 rfl rfl (by constructor)) ?_
     refine yA rfl rfl ?_
     refine yN ?_
     dsimp only [St.put]
     refine ⟨_, ?_, ⟨⟨rfl, rfl⟩, zF, zB, zN, zX⟩⟩
     first
     | (rw [s0]; simp; done)
     | (rw [s0, s1]; simp; done)
     | (rw [s0, s1, decide_eq_true s2]; simp; done)
     | (rw [s0, s1, decide_eq_false s2, Bool.true_and, Bool.true_and, Bool.false_or, decide_eq_decide]; exact nil_len.symm)
    have s0 : ot p (im p.pages j) x k = false := hs
    refine yK rfl ?_
    refine yK rfl ?_
    refine yK rfl ?_
    refine yK rfl ?_
    refine yK rfl ?_
    refine yK rfl ?_
    refine yK rfl ?_
    refine yK rfl ?_
    refine yK rfl ?_
    refine aa rfl (c5 rfl rfl (by constructor)) ?_
    refine yM rfl rfl ?_
    refine yK rfl ?_
    refine yK rfl ?_
    refine yK rfl ?_
    refine yK rfl ?_
    refine yK rfl ?_
    refine yK rfl ?_
    refine yK rfl ?_
    refine aa rfl (c5 rfl rfl (by constructor)) ?_
    refine yA rfl rfl ?_
    refine yN ?_
    dsimp only [St.put]
    refine ⟨_, ?_, ⟨⟨rfl, rfl⟩, zF, zB, zN, zX⟩⟩
    first
    | (rw [s0]; simp; done)
    | (rw [s0, s1]; simp; done)
    | (rw [s0, s1, decide_eq_true s2]; simp; done)
    | (rw [s0, s1, decide_eq_false s2, Bool.true_and, Bool.true_and, Bool.false_or, decide_eq_decide]; exact nil_len.symm)
   rintro d hd
   dsimp only at hd ⊢
   refine yS fun _ K47 => ?_
   refine lh 20 (fun hfit => ?_)
   have hfll := (fit_lst.1 hfit).1
   rw [show (C.v (.bool d)) = .v (.bool (d && dw p.text x (dr (decide (k = 1)) x) 0)) by simp [dw]]
   refine yR ?_
   refine yM rfl rfl ?_
   refine aa rfl (bp rfl rfl (List.length_map _)) ?_
   refine yM rfl rfl ?_
   refine yN ?_
   dsimp only [St.put]
   refine K47 _ ?_
   refine bg ?_
   refine ct 145 ?_
   refine zQ ?_
   refine dd ((ak (ak (ak (ak G (nx + 1) (.box (j + j + j) [lst p.text, lst p.firsts, lst p.seconds, lst p.pages, .list (((p.pages.take j).map fun x => (dm p.text x : Int)).map cells) (.tip (nx + 1 + 1)), .list (((p.pages.take j).map (cr p.text)).map cells) (.tip (nx + 1 + 1 + 1)), .list (((p.pages.take j).map (dj p.text)).map cells) (.tip (nx + 1 + 1 + 1 + 1))])) (nx + 1 + 1) (.tip ((p.pages.take j).map fun x => (dm p.text x : Int)).length 3 1)) (nx + 1 + 1 + 1) (.tip ((p.pages.take j).map (cr p.text)).length 56 1)) (nx + 1 + 1 + 1 + 1) (.tip ((p.pages.take j).map (dj p.text)).length 56 1))) zX ?_
   dsimp only
   refine dc (X := Nat) (fun i => i ≤ (dr (decide (k = 1)) x).length) (fun i => (dr (decide (k = 1)) x).length - i) (fun i => [(14, .v (.bool (d && dw p.text x (dr (decide (k = 1)) x) i))), (21, .any), (22, .any), (144, .v (.int .i64 (i : Int)))]) (fun i G' => G') 0 rfl ?_ ?_ (fun _ _ h => h) ?_ ?_ ?_
   ·exact Nat.zero_le _
   ·exact zF
   ·rintro i hI
    exact (by (try dsimp only); repeat' (first | exact trivial | refine ⟨?_, ?_⟩ | exact .v | exact .any | refine .elem ?_ | exact ca _ _ | exact fq _ _ | exact el _ _ | exact fy _ (by (try dsimp only); omega) | exact .box (by (try dsimp only); omega) | exact fk | exact dn | exact iu (jv _ _) | refine ga ?_ ?_ | exact .arr (by (try dsimp only); omega) | exact .own (by (try dsimp only); omega) | exact .map (by (try dsimp only); omega) | exact fe _ | refine co ?_ ?_ | exact ca _ _))
   ·exact fun _ _ _ _ h => .inl h
   rintro i hT
   dsimp only at hT ⊢
   refine yS fun _ K48 => ?_
   refine yR ?_
   refine aa rfl (cp rfl rfl rfl) ?_
   refine yN ?_
   dsimp only [St.put]
   refine K48 _ ?_
   refine yS fun _ K49 => ?_
   refine av rfl (fun hc => ?_) (fun hc => ?_)
   ·replace hc := of_decide_eq_true hc
    obtain ⟨q, hq⟩ : ∃ q, (dr (decide (k = 1)) x)[i]? = some q := dp (by omega)
    refine ay ?_
    refine K49 _ ?_
    refine yS fun _ K50 => ?_
    refine bg ?_
    refine yS fun _ K51 => ?_
    refine yR ?_
    refine yM rfl rfl ?_
    refine aa rfl (bx rfl rfl rfl rfl (bv (by assumption)) (Enc.len _)) ?_
    refine yE rfl rfl rfl ?_
    try dsimp only [St.put]
    refine af rfl (dx rfl ?_)
    refine yA rfl rfl ?_
    try dsimp only [St.put]
    refine af rfl (dh rfl rfl rfl zG rfl rfl (by rfl) ?_)
    refine yN ?_
    dsimp only [St.put]
    refine K51 _ ?_
    refine gh (i := 22) rfl zG zC ?_
    dsimp only
    refine rb [(0, none), (1, none), (2, none), (3, none), (4, none)] (fun _ => false) (fun i => [0, 1, 2].contains i) 33 (rl [5, 33]) (by kernel_rfl) (by kernel_rfl) ?_
    refine xM rfl rfl rfl rfl rfl ?_
    refine xM rfl rfl rfl rfl rfl ?_
    refine jy (fun hs => ?_) (fun hs => ?_)
    ·have w0 : (d && dw p.text x (dr (decide (k = 1)) x) i) = true := hs
     refine ae rfl rfl rfl rfl (cx rfl rfl rfl) ?_
     try dsimp only [St.put]
     refine bd rfl rfl rfl rfl (c := i9 p.text) (j0 (cs := cells p) rfl rfl (show 1 ≤ 4 by decide)) ?_
     try dsimp only [St.put]
     refine bd rfl rfl rfl rfl (e8 rfl rfl (Enc.len _)) ?_
     refine az ?_
     refine eb [5] (by kernel_rfl) (by simp) ?_
     refine d9 ?_ ?_
     ·try dsimp only [St.put]
      refine i0 rfl rfl rfl (bc rfl rfl rfl (ui1 p.text q ht) ?_)
      refine et [(6, none), (7, none), (8, none), (9, none), (10, none), (11, none), (12, none), (13, none), (14, none), (15, none), (16, none), (17, none), (18, none), (19, none)] (fun i => [6, 7, 8, 10, 12, 13, 15, 17, 19].contains i) 18 (rl [20, 18]) (by kernel_rfl) ?_
      refine ae rfl rfl rfl rfl (ci rfl rfl (by constructor)) ?_
      refine xM rfl rfl rfl rfl rfl ?_
      refine jy (fun hs => ?_) (fun hs => ?_)
      ·have w1 : fw p.text q = true := hs
       obtain ⟨kq, nq, wq, cq, lq, hqe, hq1, hq2, hq3⟩ := ubj w1
       have hkl := (List.getElem?_eq_some_iff.1 hq1).1
       have hnl := (List.getElem?_eq_some_iff.1 hq2).1
       have hcl := (hl3 cq (gd hq1)).2.1
       have hst := uan (t := p.text) (k := p.text.length) (i := kq) hkl
       have hsb := ud ht kq (by omega)
       have hqc : q.ch = (kq : Int) := by rw [hqe]
       have hql : q.ln = (nq : Int) := by rw [hqe]
       refine ae rfl rfl rfl rfl (cx rfl rfl rfl) ?_
       try dsimp only [St.put]
       refine bd rfl rfl rfl rfl (cm rfl rfl) ?_
       refine ae rfl rfl rfl rfl (cx rfl rfl rfl) ?_
       try dsimp only [St.put]
       refine bd rfl rfl rfl rfl (cm rfl rfl) ?_
       refine xM rfl rfl rfl rfl rfl ?_
       refine ae rfl rfl rfl rfl (cx rfl rfl rfl) ?_
       try dsimp only [St.put]
       refine bd rfl rfl rfl rfl (cm rfl rfl) ?_
       try dsimp only [St.put]
       refine ae rfl rfl rfl rfl (bx rfl rfl rfl (by omega) (bv (by assumption)) (Enc.len _)) ?_
       try dsimp only [St.put]
       refine bd rfl rfl rfl rfl (cm rfl rfl) ?_
       refine ae rfl rfl rfl rfl (cx rfl rfl rfl) ?_
       try dsimp only [St.put]
       refine bd rfl rfl rfl rfl (cm rfl rfl) ?_
       refine ae rfl rfl rfl rfl (bz rfl rfl rfl (by omega)) ?_
       refine az ?_
       refine eb [20] (by kernel_rfl) (by simp) ?_
       refine d9 ?_ ?_
       ·try dsimp only [St.put]
        refine i0 rfl rfl rfl (b9 rfl rfl rfl (by decide) (by decide) zR (by decide) ?_)
        refine eb [21] (by kernel_rfl) (by simp) ?_
        refine d9 ?_ ?_
        ·try dsimp only [St.put]
         refine i0 rfl rfl rfl (bc rfl rfl rfl (mu _ _ [_]) ?_)
         refine et [(22, none), (23, none), (24, none), (25, none), (26, none), (27, none), (28, none), (29, none), (30, none), (31, none), (32, none)] (fun i => [22, 23, 24, 25, 26, 27, 28, 29, 30].contains i) 5 (rl [33, 5]) (by kernel_rfl) ?_
         refine ae rfl rfl rfl rfl (ci rfl rfl (by constructor)) ?_
         refine xM rfl rfl rfl rfl rfl ?_
         refine jy (fun hs => ?_) (fun hs => ?_)
         ·have w2 : ib p.text x q = true := by
           rw [gn] at hs
           unfold ib pt
           rw [hqc, Int.toNat_natCast, Int.add_comm]; exact hs
          refine xM rfl rfl rfl rfl rfl ?_
          refine ae rfl rfl rfl rfl (fm rfl rfl rfl) ?_
          refine xM rfl rfl rfl rfl rfl ?_
          refine jy (fun hs => ?_) (fun hs => ?_)
          ·have w3 : i = 0 := by have := of_decide_eq_true hs; omega
           refine aj rfl rfl rfl ?_
           refine aj rfl rfl rfl ?_
           refine aj rfl rfl rfl ?_
           refine aj rfl rfl rfl ?_
           refine aj rfl rfl rfl ?_
           refine aj rfl rfl rfl ?_
           refine az ?_
           refine eb [33] (by kernel_rfl) (by simp) ?_
           refine d9 ?_ ?_
           ·refine gi rfl rfl rfl ?_
            refine et [(34, none), (35, none), (36, none), (37, none)] (fun i => [34, 35, 36, 37].contains i) 0 (rl [38]) (by kernel_rfl) ?_
            refine aj rfl rfl rfl ?_
            refine ae rfl rfl rfl rfl (ci rfl rfl (by constructor)) ?_
            refine ae rfl rfl rfl rfl (ci rfl rfl (by constructor)) ?_
            refine ae rfl rfl rfl rfl (fp rfl (by constructor)) ?_
            refine az ?_
            dsimp only [St.put]
            refine ix (by kernel_rfl) ?_
            refine K50 _ ?_
            refine yR ?_
            refine aa rfl (bz rfl rfl rfl (by omega)) ?_
            refine yM rfl rfl ?_
            refine yN ?_
            dsimp only [St.put]
            refine ⟨i + 1, by omega, by omega, ?_⟩
            try dsimp only
            first
            | (rw [show (d && dw p.text x (dr (decide (k = 1)) x) (i + 1)) = false by rw [g6, ← Bool.and_assoc, show (d && dw p.text x (dr (decide (k = 1)) x) i) = false from w0, Bool.false_and]]
               exact ⟨⟨rfl, rfl⟩, zF, zB, zN, zX⟩)
            | (rw [show (d && dw p.text x (dr (decide (k = 1)) x) (i + 1)) = false by rw [g6, ja hq, show fw p.text q = false from w1]; simp]
               exact ⟨⟨rfl, rfl⟩, zF, zB, zN, zX⟩)
            | (rw [show (d && dw p.text x (dr (decide (k = 1)) x) (i + 1)) = false by rw [g6, ja hq, show ib p.text x q = false from w2]; simp]
               exact ⟨⟨rfl, rfl⟩, zF, zB, zN, zX⟩)
            | (rw [show (d && dw p.text x (dr (decide (k = 1)) x) (i + 1)) = true by rw [g6, ← Bool.and_assoc, show (d && dw p.text x (dr (decide (k = 1)) x) i) = true from w0, ja hq, w1, w2, decide_eq_true (show i = 0 from w3)]; rfl]
               exact ⟨⟨rfl, rfl⟩, zF, zB, zN, zX⟩)
            | (rw [show (d && dw p.text x (dr (decide (k = 1)) x) (i + 1)) = decide (lm a q < 0) by rw [g6, ← Bool.and_assoc, show (d && dw p.text x (dr (decide (k = 1)) x) i) = true from w0, ja hq, w1, w2, decide_eq_false (show ¬ i = 0 from w3), ha]; rfl]
               exact ⟨⟨rfl, rfl⟩, zF, zB, zN, zX⟩)
           exact d8
          have w3 : ¬ i = 0 := by have := of_decide_eq_false hs; omega
          obtain ⟨a, ha⟩ : ∃ a, (dr (decide (k = 1)) x)[i - 1]? = some a := dp (by omega)
          refine xM rfl rfl rfl rfl rfl ?_
          refine xM rfl rfl rfl rfl rfl ?_
          refine ae rfl rfl rfl rfl (gt rfl rfl rfl (by omega)) ?_
          try dsimp only [St.put]
          refine ae rfl rfl rfl rfl (bx (k := i - 1) rfl rfl rfl (by omega) (bv ha) (Enc.len _)) ?_
          try dsimp only [St.put]
          refine bd rfl rfl rfl rfl (e8 rfl rfl (Enc.len _)) ?_
          try dsimp only [St.put]
          refine bd rfl rfl rfl rfl (e8 rfl rfl (Enc.len _)) ?_
          refine az ?_
          refine eb [33] (by kernel_rfl) (by simp) ?_
          refine d9 ?_ ?_
          ·try dsimp only [St.put]
           refine i0 rfl rfl rfl (bc rfl rfl rfl (xu a q) ?_)
           refine et [(34, none), (35, none), (36, none), (37, none)] (fun i => [34, 35, 36, 37].contains i) 0 (rl [38]) (by kernel_rfl) ?_
           refine ae rfl rfl rfl rfl (cp rfl rfl rfl) ?_
           refine ae rfl rfl rfl rfl (c5 rfl rfl (by constructor)) ?_
           refine ae rfl rfl rfl rfl (ci rfl rfl (by constructor)) ?_
           refine ae rfl rfl rfl rfl (fp rfl (by constructor)) ?_
           refine az ?_
           dsimp only [St.put]
           refine ix (by kernel_rfl) ?_
           refine K50 _ ?_
           refine yR ?_
           refine aa rfl (bz rfl rfl rfl (by omega)) ?_
           refine yM rfl rfl ?_
           refine yN ?_
           dsimp only [St.put]
           refine ⟨i + 1, by omega, by omega, ?_⟩
           try dsimp only
           first
           | (rw [show (d && dw p.text x (dr (decide (k = 1)) x) (i + 1)) = false by rw [g6, ← Bool.and_assoc, show (d && dw p.text x (dr (decide (k = 1)) x) i) = false from w0, Bool.false_and]]
              exact ⟨⟨rfl, rfl⟩, zF, zB, zN, zX⟩)
           | (rw [show (d && dw p.text x (dr (decide (k = 1)) x) (i + 1)) = false by rw [g6, ja hq, show fw p.text q = false from w1]; simp]
              exact ⟨⟨rfl, rfl⟩, zF, zB, zN, zX⟩)
           | (rw [show (d && dw p.text x (dr (decide (k = 1)) x) (i + 1)) = false by rw [g6, ja hq, show ib p.text x q = false from w2]; simp]
              exact ⟨⟨rfl, rfl⟩, zF, zB, zN, zX⟩)
           | (rw [show (d && dw p.text x (dr (decide (k = 1)) x) (i + 1)) = true by rw [g6, ← Bool.and_assoc, show (d && dw p.text x (dr (decide (k = 1)) x) i) = true from w0, ja hq, w1, w2, decide_eq_true (show i = 0 from w3)]; rfl]
              exact ⟨⟨rfl, rfl⟩, zF, zB, zN, zX⟩)
           | (rw [show (d && dw p.text x (dr (decide (k = 1)) x) (i + 1)) = decide (lm a q < 0) by rw [g6, ← Bool.and_assoc, show (d && dw p.text x (dr (decide (k = 1)) x) i) = true from w0, ja hq, w1, w2, decide_eq_false (show ¬ i = 0 from w3), ha]; rfl]
              exact ⟨⟨rfl, rfl⟩, zF, zB, zN, zX⟩)
          exact d8
         have w2 : ib p.text x q = false := by
          rw [gn] at hs
          unfold ib pt
          rw [hqc, Int.toNat_natCast, Int.add_comm]; exact hs
         refine aj rfl rfl rfl ?_
         refine aj rfl rfl rfl ?_
         refine aj rfl rfl rfl ?_
         refine aj rfl rfl rfl ?_
         refine aj rfl rfl rfl ?_
         refine aj rfl rfl rfl ?_
         refine aj rfl rfl rfl ?_
         refine aj rfl rfl rfl ?_
         refine aj rfl rfl rfl ?_
         refine az ?_
         refine eb [33] (by kernel_rfl) (by simp) ?_
         refine d9 ?_ ?_
         ·refine gi rfl rfl rfl ?_
          refine et [(34, none), (35, none), (36, none), (37, none)] (fun i => [34, 35, 36, 37].contains i) 0 (rl [38]) (by kernel_rfl) ?_
          refine aj rfl rfl rfl ?_
          refine aj rfl rfl rfl ?_
          refine ae rfl rfl rfl rfl (c5 rfl rfl (by constructor)) ?_
          refine ae rfl rfl rfl rfl (fp rfl (by constructor)) ?_
          refine az ?_
          dsimp only [St.put]
          refine ix (by kernel_rfl) ?_
          refine K50 _ ?_
          refine yR ?_
          refine aa rfl (bz rfl rfl rfl (by omega)) ?_
          refine yM rfl rfl ?_
          refine yN ?_
          dsimp only [St.put]
          refine ⟨i + 1, by omega, by omega, ?_⟩
          try dsimp only
          first
          | (rw [show (d && dw p.text x (dr (decide (k = 1)) x) (i + 1)) = false by rw [g6, ← Bool.and_assoc, show (d && dw p.text x (dr (decide (k = 1)) x) i) = false from w0, Bool.false_and]]
             exact ⟨⟨rfl, rfl⟩, zF, zB, zN, zX⟩)
          | (rw [show (d && dw p.text x (dr (decide (k = 1)) x) (i + 1)) = false by rw [g6, ja hq, show fw p.text q = false from w1]; simp]
             exact ⟨⟨rfl, rfl⟩, zF, zB, zN, zX⟩)
          | (rw [show (d && dw p.text x (dr (decide (k = 1)) x) (i + 1)) = false by rw [g6, ja hq, show ib p.text x q = false from w2]; simp]
             exact ⟨⟨rfl, rfl⟩, zF, zB, zN, zX⟩)
          | (rw [show (d && dw p.text x (dr (decide (k = 1)) x) (i + 1)) = true by rw [g6, ← Bool.and_assoc, show (d && dw p.text x (dr (decide (k = 1)) x) i) = true from w0, ja hq, w1, w2, decide_eq_true (show i = 0 from w3)]; rfl]
             exact ⟨⟨rfl, rfl⟩, zF, zB, zN, zX⟩)
          | (rw [show (d && dw p.text x (dr (decide (k = 1)) x) (i + 1)) = decide (lm a q < 0) by rw [g6, ← Bool.and_assoc, show (d && dw p.text x (dr (decide (k = 1)) x) i) = true from w0, ja hq, w1, w2, decide_eq_false (show ¬ i = 0 from w3), ha]; rfl]
             exact ⟨⟨rfl, rfl⟩, zF, zB, zN, zX⟩)
         exact d8
        exact d8
       exact d8
      have w1 : fw p.text q = false := hs
      refine aj rfl rfl rfl ?_
      refine aj rfl rfl rfl ?_
      refine aj rfl rfl rfl ?_
      refine aj rfl rfl rfl ?_
      refine aj rfl rfl rfl ?_
      refine aj rfl rfl rfl ?_
      refine aj rfl rfl rfl ?_
      refine aj rfl rfl rfl ?_
      refine aj rfl rfl rfl ?_
      refine aj rfl rfl rfl ?_
      refine aj rfl rfl rfl ?_
      refine aj rfl rfl rfl ?_
      refine az ?_
      refine eb [20] (by kernel_rfl) (by simp) ?_
      refine d9 ?_ ?_
      ·refine gi rfl rfl rfl ?_
       refine eb [21] (by kernel_rfl) (by simp) ?_
       refine d9 ?_ ?_
       ·refine gi rfl rfl rfl ?_
        refine et [(22, none), (23, none), (24, none), (25, none), (26, none), (27, none), (28, none), (29, none), (30, none), (31, none), (32, none)] (fun i => [22, 23, 24, 25, 26, 27, 28, 29, 30].contains i) 5 (rl [33, 5]) (by kernel_rfl) ?_
        refine ae rfl rfl rfl rfl (c5 rfl rfl (by constructor)) ?_
        refine xM rfl rfl rfl rfl rfl ?_
        refine aj rfl rfl rfl ?_
        refine aj rfl rfl rfl ?_
        refine aj rfl rfl rfl ?_
        refine aj rfl rfl rfl ?_
        refine aj rfl rfl rfl ?_
        refine aj rfl rfl rfl ?_
        refine aj rfl rfl rfl ?_
        refine aj rfl rfl rfl ?_
        refine aj rfl rfl rfl ?_
        refine az ?_
        refine eb [33] (by kernel_rfl) (by simp) ?_
        refine d9 ?_ ?_
        ·refine gi rfl rfl rfl ?_
         refine et [(34, none), (35, none), (36, none), (37, none)] (fun i => [34, 35, 36, 37].contains i) 0 (rl [38]) (by kernel_rfl) ?_
         refine aj rfl rfl rfl ?_
         refine aj rfl rfl rfl ?_
         refine ae rfl rfl rfl rfl (c5 rfl rfl (by constructor)) ?_
         refine ae rfl rfl rfl rfl (fp rfl (by constructor)) ?_
         refine az ?_
         dsimp only [St.put]
         refine ix (by kernel_rfl) ?_
         refine K50 _ ?_
         refine yR ?_
         refine aa rfl (bz rfl rfl rfl (by omega)) ?_
         refine yM rfl rfl ?_
         refine yN ?_
         dsimp only [St.put]
         refine ⟨i + 1, by omega, by omega, ?_⟩
         try dsimp only
         first
         | (rw [show (d && dw p.text x (dr (decide (k = 1)) x) (i + 1)) = false by rw [g6, ← Bool.and_assoc, show (d && dw p.text x (dr (decide (k = 1)) x) i) = false from w0, Bool.false_and]]
            exact ⟨⟨rfl, rfl⟩, zF, zB, zN, zX⟩)
         | (rw [show (d && dw p.text x (dr (decide (k = 1)) x) (i + 1)) = false by rw [g6, ja hq, show fw p.text q = false from w1]; simp]
            exact ⟨⟨rfl, rfl⟩, zF, zB, zN, zX⟩)
         | (rw [show (d && dw p.text x (dr (decide (k = 1)) x) (i + 1)) = false by rw [g6, ja hq, show ib p.text x q = false from w2]; simp]
            exact ⟨⟨rfl, rfl⟩, zF, zB, zN, zX⟩)
         | (rw [show (d && dw p.text x (dr (decide (k = 1)) x) (i + 1)) = true by rw [g6, ← Bool.and_assoc, show (d && dw p.text x (dr (decide (k = 1)) x) i) = true from w0, ja hq, w1, w2, decide_eq_true (show i = 0 from w3)]; rfl]
            exact ⟨⟨rfl, rfl⟩, zF, zB, zN, zX⟩)
         | (rw [show (d && dw p.text x (dr (decide (k = 1)) x) (i + 1)) = decide (lm a q < 0) by rw [g6, ← Bool.and_assoc, show (d && dw p.text x (dr (decide (k = 1)) x) i) = true from w0, ja hq, w1, w2, decide_eq_false (show ¬ i = 0 from w3), ha]; rfl]
            exact ⟨⟨rfl, rfl⟩, zF, zB, zN, zX⟩)
        exact d8
       exact d8
      exact d8
     exact d8
    have w0 : (d && dw p.text x (dr (decide (k = 1)) x) i) = false := hs
    refine aj rfl rfl rfl ?_
    refine aj rfl rfl rfl ?_
    refine aj rfl rfl rfl ?_
    refine az ?_
    refine eb [5] (by kernel_rfl) (by simp) ?_
    refine d9 ?_ ?_
    ·refine gi rfl rfl rfl ?_
     refine et [(6, none), (7, none), (8, none), (9, none), (10, none), (11, none), (12, none), (13, none), (14, none), (15, none), (16, none), (17, none), (18, none), (19, none)] (fun i => [6, 7, 8, 10, 12, 13, 15, 17, 19].contains i) 18 (rl [20, 18]) (by kernel_rfl) ?_
     refine ae rfl rfl rfl rfl (c5 rfl rfl (by constructor)) ?_
     refine xM rfl rfl rfl rfl rfl ?_
     refine aj rfl rfl rfl ?_
     refine aj rfl rfl rfl ?_
     refine aj rfl rfl rfl ?_
     refine aj rfl rfl rfl ?_
     refine aj rfl rfl rfl ?_
     refine aj rfl rfl rfl ?_
     refine aj rfl rfl rfl ?_
     refine aj rfl rfl rfl ?_
     refine aj rfl rfl rfl ?_
     refine aj rfl rfl rfl ?_
     refine aj rfl rfl rfl ?_
     refine aj rfl rfl rfl ?_
     refine az ?_
     refine eb [20] (by kernel_rfl) (by simp) ?_
     refine d9 ?_ ?_
     ·refine gi rfl rfl rfl ?_
      refine eb [21] (by kernel_rfl) (by simp) ?_
      refine d9 ?_ ?_
      ·refine gi rfl rfl rfl ?_
       refine et [(22, none), (23, none), (24, none), (25, none), (26, none), (27, none), (28, none), (29, none), (30, none), (31, none), (32, none)] (fun i => [22, 23, 24, 25, 26, 27, 28, 29, 30].contains i) 5 (rl [33, 5]) (by kernel_rfl) ?_
       refine ae rfl rfl rfl rfl (c5 rfl rfl (by constructor)) ?_
       refine xM rfl rfl rfl rfl rfl ?_
       refine aj rfl rfl rfl ?_
       refine aj rfl rfl rfl ?_
       refine aj rfl rfl rfl ?_
       refine aj rfl rfl rfl ?_
       refine aj rfl rfl rfl ?_
       refine aj rfl rfl rfl ?_
       refine aj rfl rfl rfl ?_
       refine aj rfl rfl rfl ?_
       refine aj rfl rfl rfl ?_
       refine az ?_
       refine eb [33] (by kernel_rfl) (by simp) ?_
       refine d9 ?_ ?_
       ·refine gi rfl rfl rfl ?_
        refine et [(34, none), (35, none), (36, none), (37, none)] (fun i => [34, 35, 36, 37].contains i) 0 (rl [38]) (by kernel_rfl) ?_
        refine aj rfl rfl rfl ?_
        refine aj rfl rfl rfl ?_
        refine ae rfl rfl rfl rfl (c5 rfl rfl (by constructor)) ?_
        refine ae rfl rfl rfl rfl (fp rfl (by constructor)) ?_
        refine az ?_
        dsimp only [St.put]
        refine ix (by kernel_rfl) ?_
        refine K50 _ ?_
        refine yR ?_
        refine aa rfl (bz rfl rfl rfl (by omega)) ?_
        refine yM rfl rfl ?_
        refine yN ?_
        dsimp only [St.put]
        refine ⟨i + 1, by omega, by omega, ?_⟩
        try dsimp only
        first
        | (rw [show (d && dw p.text x (dr (decide (k = 1)) x) (i + 1)) = false by rw [g6, ← Bool.and_assoc, show (d && dw p.text x (dr (decide (k = 1)) x) i) = false from w0, Bool.false_and]]
           exact ⟨⟨rfl, rfl⟩, zF, zB, zN, zX⟩)
        | (rw [show (d && dw p.text x (dr (decide (k = 1)) x) (i + 1)) = false by rw [g6, ja hq, show fw p.text q = false from w1]; simp]
           exact ⟨⟨rfl, rfl⟩, zF, zB, zN, zX⟩)
        | (rw [show (d && dw p.text x (dr (decide (k = 1)) x) (i + 1)) = false by rw [g6, ja hq, show ib p.text x q = false from w2]; simp]
           exact ⟨⟨rfl, rfl⟩, zF, zB, zN, zX⟩)
        | (rw [show (d && dw p.text x (dr (decide (k = 1)) x) (i + 1)) = true by rw [g6, ← Bool.and_assoc, show (d && dw p.text x (dr (decide (k = 1)) x) i) = true from w0, ja hq, w1, w2, decide_eq_true (show i = 0 from w3)]; rfl]
           exact ⟨⟨rfl, rfl⟩, zF, zB, zN, zX⟩)
        | (rw [show (d && dw p.text x (dr (decide (k = 1)) x) (i + 1)) = decide (lm a q < 0) by rw [g6, ← Bool.and_assoc, show (d && dw p.text x (dr (decide (k = 1)) x) i) = true from w0, ja hq, w1, w2, decide_eq_false (show ¬ i = 0 from w3), ha]; rfl]
           exact ⟨⟨rfl, rfl⟩, zF, zB, zN, zX⟩)
       exact d8
      exact d8
     exact d8
    exact d8
   replace hc := of_decide_eq_false hc
   obtain rfl : i = (dr (decide (k = 1)) x).length := by omega
   refine c7 ?_
   refine K43 _ ?_
   refine yR ?_
   refine aa rfl (bz rfl rfl rfl (by omega)) ?_
   refine yM rfl rfl ?_
   refine yN ?_
   dsimp only [St.put]
   rw [show (d && dw p.text x (dr (decide (k = 1)) x) (dr (decide (k = 1)) x).length) = ot p (im p.pages j) x (k + 1) by rw [hd]; simp only [ot, ru, ig, Bool.and_assoc]]
   exact ⟨k + 1, by omega, by omega, ⟨⟨rfl, rfl⟩, zF, zB, zN, zX⟩⟩
  replace hc := of_decide_eq_false hc
  obtain rfl : k = 2 := by omega
  rw [uhf]
  refine c7 ?_
  refine K39 _ ?_
  refine yS fun _ K52 => ?_
  refine yS fun _ K53 => ?_
  refine yR ?_
  refine yM rfl rfl ?_
  refine aa rfl (d7 rfl rfl) ?_
  refine yN ?_
  dsimp only [St.put]
  refine K53 _ ?_
  refine av rfl (fun hc => ?_) (fun hc => ?_)
  ·have hpg : ll p (im p.pages j) x = false := by simpa using hc
   have hE : cv p = 90 := v6 ht (uo hx hpg)
   rw [hpg]
   refine c7 ?_
   refine K32 _ ?_
   refine yS fun _ K54 => ?_
   refine yS fun _ K55 => ?_
   refine yR ?_
   refine yM rfl rfl ?_
   refine aa rfl (d7 rfl rfl) ?_
   refine yN ?_
   dsimp only [St.put]
   refine K55 _ ?_
   refine av rfl (fun _ => ?_) (fun h => by cases h)
   refine yS fun _ K56 => ?_
   refine yR ?_
   refine yA rfl rfl ?_
   refine yA rfl rfl ?_
   refine yN ?_
   dsimp only [St.put]
   refine K56 _ ?_
   refine ax ?_
   refine j7 rfl (by constructor) (by constructor) zN zS ?_ ?_
   ·rw [se (by rw [hE]; decide)]
   rw [hE]
  have hpg : ll p (im p.pages j) x = true := by simpa using hc
  have hpo := pageB_true.1 hpg
  rw [hpg]
  refine ay ?_
  refine K52 _ ?_
  refine yS fun _ K57 => ?_
  refine yR ?_
  refine yF rfl rfl rfl rfl ?_
  refine yL rfl rfl rfl ?_
  refine yA rfl rfl ?_
  refine yN ?_
  dsimp only [St.put]
  refine K57 _ ?_
  refine yR ?_
  refine yM rfl rfl ?_
  refine yE rfl rfl rfl ?_
  refine yM rfl rfl ?_
  try dsimp only [St.put]
  refine af rfl (th rfl rfl rfl (un2 p (im p.pages j) x ((p.pages.take j).map fun x => (dm p.text x : Int)) ((p.pages.take j).map (cr p.text)) ((p.pages.take j).map (dj p.text)) (nx + 1) (nx + 1 + 1) (nx + 1 + 1 + 1) (nx + 1 + 1 + 1 + 1) (j + j + j) ht hpo (by rw [List.length_map, List.length_take]; omega) (by rw [List.length_map, List.length_take]; omega) (by rw [List.length_map, List.length_take]; omega) _ _ (by dsimp only [St.put]; omega) (by dsimp only [St.put]; omega) (by dsimp only [St.put]; omega) (by dsimp only [St.put]; omega) (by omega) (by omega) (by omega) (by omega) (by omega) (by omega) zG zG zG zG) ?_)
  refine yN ?_
  dsimp only [St.put]
  refine K36 _ ?_
  refine yR ?_
  refine aa rfl (bz rfl rfl rfl (by omega)) ?_
  refine yM rfl rfl ?_
  refine yN ?_
  dsimp only [St.put]
  rw [show j + j + j + 1 + 1 + 1 = (j + 1) + (j + 1) + (j + 1) by omega, ← ox (f := fun x => (dm p.text x : Int)) hx, ← ox (f := cr p.text) hx, ← ox (f := dj p.text) hx, ← uc4 hx]
  exact ⟨j + 1, by omega, ⟨by omega, by rw [ubn, hK.2, xo hx, hpg]; rfl⟩, ⟨⟨rfl, rfl⟩, zF, zB, zN, zX⟩⟩
 replace hc := of_decide_eq_false hc
 obtain rfl : j = p.pages.length := by omega
 rw [List.take_length]
 have hE : cv p = 0 := umr ht (by unfold gg; rw [hRB, decide_eq_true hnp, hK.2]; rfl)
 refine c7 ?_
 refine K32 _ ?_
 refine yS fun _ K58 => ?_
 refine yS fun _ K59 => ?_
 refine yR ?_
 refine yM rfl rfl ?_
 refine aa rfl (d7 rfl rfl) ?_
 refine yN ?_
 dsimp only [St.put]
 refine K59 _ ?_
 refine av rfl (fun h => by cases h) (fun _ => ?_)
 refine ay ?_
 refine K58 _ ?_
 refine yS fun _ K60 => ?_
 refine v7 (nx + 1) _ [lst p.text, lst p.firsts, lst p.seconds, lst p.pages, lst (p.pages.map fun x => (dm p.text x : Int)), lst (p.pages.map (cr p.text)), lst (p.pages.map (dj p.text))] zG zW ?_
 refine gh (i := 12) rfl zG (by simp) ?_
 dsimp only
 refine yR ?_
 refine yM rfl rfl ?_
 refine yA rfl rfl ?_
 refine yA rfl rfl ?_
 refine yN ?_
 dsimp only [St.put]
 refine K60 _ ?_
 refine ax ?_
 refine j7 rfl (by constructor) (by constructor) zN zS ?_ ?_
 ·rw [uv hE]
 rw [hE]
end Go.Proofs.YtbbdginipiljdaaGreatDoor
namespace Go.AB
open Go Go.RowKit

theorem EvR.trans {E1 E2 E3 : Env} {w1 w2 w3 : World} (h : EvR E1 w1 E2 w2) (k : EvR E2 w2 E3 w3) : EvR E1 w1 E3 w3 :=
 ⟨k.B.trans h.B, fun b => Nat.le_trans (h.L b) (k.L b), fun b i hi => (k.cell b i (Nat.lt_of_lt_of_le hi (h.L b))).trans (h.cell b i hi), Nat.le_trans h.nx k.nx, fun n hn v3 x3 y3 h3 => by
  obtain ⟨v2, x2, y2, h2, q1, q2⟩ := k.T n (Nat.lt_of_lt_of_le hn h.nx) _ _ _ h3
  obtain ⟨v1, x1, y1, h1, q3, q4⟩ := h.T n hn _ _ _ h2
  exact ⟨v1, x1, y1, h1, Nat.le_trans q3 q1, fun e => (q4 (by omega)).trans (q2 (by omega))⟩⟩
theorem EvR.drop {E E' : Env} {w w' : World} (h : EvR E w E' w') {m : Nat} (hm : E.nx ≤ m) : EvR E w (E'.drop m) w' :=
 ⟨h.B, h.L, h.cell, hm, fun n hn v x y ht => h.T n hn v x y (by
  simp only [Env.drop] at ht
  split at ht
  ·exact ht
  ·cases ht)⟩
theorem EvR.same {E : Env} {w w' : World} (hc : ∀ b i, i < E.L b → w'.cell? ⟨b, i, none⟩ = w.cell? ⟨b, i, none⟩) : EvR E w E w' :=
 ⟨rfl, fun _ => Nat.le_refl _, hc, Nat.le_refl _, fun _ _ v x y ht => ⟨v, x, y, ht, Nat.le_refl _, fun _ => rfl⟩⟩

/-- An iterator at work: what is owned when so many things have come; how many there are; what they are. -/
structure FC where
 G : Nat → Nat → Option GObj
 nx : Nat
 J : Nat → Env → World → Prop
 N : Nat
 l : Nat
 cl : Nat → List C
def FC.st (I : FC) (st : St) (k : Nat) : St := { st with G := I.G k, nx := I.nx, df := 0 }
structure FC.Ok (P : Program) (I : FC) : Prop where
 sim : ∀ {k E W}, I.J k E W → SimG E W (I.G k) I.nx
 F : ∀ {k E W}, I.J k E W → E.F ≤ W.heap.size
 ev : ∀ {k E W E' W'}, I.J k E W → Ev E W E' W' → SimG E' W' (I.G k) I.nx → I.J k E' W'
 hY : ∀ {k E W vs}, I.J k E W → k < I.N → Rs E W (I.cl k) vs → YieldAt (fen none) 1 P I.l vs.toArray W fun e W' => e = .returned (.bool true) ∧ ∃ E', EvR E W E' W' ∧ I.J (k + 1) E' W'
/-- The contract of an iterator's value, where a fact is known by a name. -/
def wh (nF : Nat) (F : GObj) (P : Program) (gf : Nat) (caps : List C) (N : Nat) (cl : Nat → List C) : Prop :=
 ∀ (I : FC), I.N = N → I.cl = cl → I.Ok P → (∀ k, I.G k nF = some F) → nF < I.nx → ∀ (E : Env) (w : World) (lb : List Value), I.J 0 E w → Rs E w caps lb →
  CallsIn (fen none) 2 P gf (#[.func (.yield I.l) #[] #[]] ++ lb.toArray) w fun e W' => (∃ v, e = .returned v) ∧ ∃ E', I.J N E' W'

section
variable (P : Program) (I : FC)
def FW (c : Code) (Q : Exit → St → Nat → Prop) (st : St) (k : Nat) : Prop :=
 ∀ E W a, I.J k E W → Sim E W (I.st st k) a → cwp none P c (fun e a' W' => ∃ E' st' k', I.J k' E' W' ∧ Sim E' W' (I.st st' k') a' ∧ Q e st' k') a W
def ufl (K : St → Nat → Prop) (Q : Exit → St → Nat → Prop) : Exit → St → Nat → Prop
 | .normal, st, k => K st k
 | e, st, k => Q e st k
def ufm (id : Nat) (Q : Exit → St → Nat → Prop) : Exit → St → Nat → Prop
 | .exit id', st, k => if id' = id then Q .normal st k else Q (.exit id') st k
 | e, st, k => Q e st k
def rh (ops : Array Oper) (K : St → Nat → Prop) (rest : List Oper) (st : St) (k : Nat) : Prop :=
 ∀ E W a, I.J k E W → Sim E W (I.st st k) a → ∀ Q : Exit → Act → World → Prop, (∀ a' E' W' st' k', I.J k' E' W' → Sim E' W' (I.st st' k') a' → K st' k' → Q .normal a' W') → wpListIn (fen none) 1 P ops Q rest a W
end
/-- Cells that name nothing beyond m: what stands in slots last. -/
def lowR (m : Nat) : List Nat → List (Nat × C) → Prop
 | _, [] => True
 | s, p :: r => (s.contains p.1 = true ∨ p.2.low m) ∧ lowR m (p.1 :: s) r
theorem ucv {m : Nat} {l : List C} {i : Nat} (hl : (l.getD i .any).low m) : ∀ {r : List (Nat × C)} {s : List Nat}, lowR m s r → s.contains i = false → (du l r i).low m
 | [], _, _, _ => hl
 | p :: r, s, h, hi => by
  simp only [du]
  cases hb : Nat.beq p.1 i
  ·rw [cond_false]
   refine ucv hl h.2 ?_
   have hne : ¬ p.1 = i := fun e => by rw [e] at hb; simp at hb
   simp only [List.contains_cons, Bool.or_eq_false_iff, beq_eq_false_iff_ne]
   exact ⟨fun e => hne e.symm, hi⟩
  ·rw [cond_true]
   have e := Nat.eq_of_beq_eq_true hb
   rcases h.1 with h1 | h1
   ·rw [e, hi] at h1; cases h1
   ·exact h1

/-- .. so what stood in slots ahead. -/
def lowN (m : Nat) (s : List Nat) : Nat → List C → Prop
 | _, [] => True
 | i, c :: l => (s.contains i = true ∨ c.low m) ∧ lowN m s (i + 1) l
theorem ucx {m : Nat} {s : List Nat} : ∀ {l : List C} {i j : Nat}, lowN m s i l → s.contains (i + j) = false → (l.getD j .any).low m
 | [], _, _, _, _ => .any
 | c :: l, i, 0, h, hs => by
  rcases h.1 with h1 | h1
  ·rw [Nat.add_zero] at hs; rw [hs] at h1; cases h1
  ·exact h1
 | c :: l, i, j + 1, h, hs => ucx (l := l) (i := i + 1) (j := j) h.2 (by rw [show i + 1 + j = i + (j + 1) by omega]; exact hs)
theorem ucw {m : Nat} {l : List C} {i : Nat} : ∀ {r : List (Nat × C)} {s : List Nat}, ((r.map (·.1)).contains i = false → (l.getD i .any).low m) → lowR m s r → s.contains i = false → (du l r i).low m
 | [], _, hl, _, _ => hl rfl
 | p :: r, s, hl, h, hi => by
  simp only [du]
  cases hb : Nat.beq p.1 i
  ·rw [cond_false]
   have hne : ¬ p.1 = i := fun e => by rw [e] at hb; simp at hb
   refine ucw (fun hk => hl ?_) h.2 ?_
   ·simp only [List.map_cons, List.contains_cons, Bool.or_eq_false_iff, beq_eq_false_iff_ne]
    exact ⟨fun e => hne e.symm, hk⟩
   ·simp only [List.contains_cons, Bool.or_eq_false_iff, beq_eq_false_iff_ne]
    exact ⟨fun e => hne e.symm, hi⟩
  ·rw [cond_true]
   have e := Nat.eq_of_beq_eq_true hb
   rcases h.1 with h1 | h1
   ·rw [e, hi] at h1; cases h1
   ·exact h1
/-- so that what stands in slots last names nothing beyond what is owned -/
theorem zK {p : Prop} (h : p := by (try dsimp only); repeat' (first | exact trivial | exact .inl rfl | refine ⟨?_, ?_⟩ | exact .v | exact .any | refine .inr ?_ | refine .elem ?_ | refine .agg ?_ | refine .tup ?_ | refine .fn ?_ | exact ca _ _ | exact fq _ _ | exact el _ _ | exact fy _ (by (try dsimp only); omega) | exact .box (by (try dsimp only); omega) | exact fk | exact dn | exact fe _ | refine co ?_ ?_)) : p := h
section
variable {P : Program} {I : FC} {Q : Exit → St → Nat → Prop} {st : St} {k : Nat}
theorem ta (h : Q .normal st k) : FW P I .skip Q st k := fun _ _ _ hj hs => wpIn_skip ⟨_, st, k, hj, hs, h⟩
theorem yv {id : Nat} (h : Q (.exit id) st k) : FW P I (.exit id) Q st k := fun _ _ _ hj hs => wpIn_exit ⟨_, st, k, hj, hs, h⟩
theorem oz {x z : Code} (h : ∀ K : St → Nat → Prop, (∀ st' k', FW P I z Q st' k' → K st' k') → FW P I x (ufl K Q) st k) : FW P I (.seq x z) Q st k := by
 intro E W a hj hs
 refine wpIn_seq (wpIn_mono (h _ (fun _ _ h => h) E W a hj hs) ?_)
 rintro e a' W' ⟨E', st', k', h1, h2, h3⟩
 cases e with
 | normal => exact h3 E' W' a' h1 h2
 | _ => exact ⟨E', st', k', h1, h2, h3⟩
theorem qt {id : Nat} {c : Code} (h : FW P I c (ufm id Q) st k) : FW P I (.block id c) Q st k := by
 intro E W a hj hs
 refine wpIn_block (wpIn_mono (h E W a hj hs) ?_)
 rintro e a' W' ⟨E', st', k', h0, h1, h2⟩
 cases e with
 | exit id' =>
  simp only [ufm] at h2
  simp only [Exit.inBlock]
  split at h2
  ·rename_i e; rw [if_pos e]; exact ⟨E', st', k', h0, h1, h2⟩
  ·rename_i e; rw [if_neg e]; exact ⟨E', st', k', h0, h1, h2⟩
 | _ => exact ⟨E', st', k', h0, h1, h2⟩
theorem td {c : Operand} {x z : Code} {b : Bool} (hc : evC st c = .v (.bool b)) (ht : b = true → FW P I x Q st k) (hf : b = false → FW P I z Q st k) : FW P I (.cond c x z) Q st k := by
 intro E W a hj hs
 have : evC (I.st st k) c = .v (.bool b) := hc
 exact wpIn_cond_split ((this ▸ hs.ev c).v_inv) (fun e => ht e E W a hj hs) (fun e => hf e E W a hj hs)
theorem kp {c : Code} (m : Nat) (h : FW P I c Q { st with l := firsts st.l st.r 0 m, r := [] } k) : FW P I c Q st k := fun E W a hj hs => h E W a hj (hs.wipe m)
theorem yu {X : Type} {c : Code} (Inv : X → Prop) (μ : X → Nat) (u : X → List (Nat × C)) (kk : X → Nat) (x0 : X) (hr : st.r = []) (h0 : Inv x0) (e0 : qa st.l [] (u x0)) (hk : k = kk x0)
  (hu : ∀ x, Inv x → qo I.nx (u x))
  (round : ∀ x, Inv x → FW P I c (ufl (fun st' k' => ∃ x', μ x' < μ x ∧ Inv x' ∧ k' = kk x' ∧ Back (I.st st k) (u x') (I.G k') (I.st st' k')) Q) { st with r := u x } (kk x)) : FW P I (.loop c) Q st k := by
 intro E W a hj hs
 refine uej (fun m a1 W1 => ∃ x E1, m = μ x ∧ Inv x ∧ I.J (kk x) E1 W1 ∧ Sim E1 W1 (I.st { st with r := u x } (kk x)) a1) (μ x0) ⟨x0, E, rfl, h0, hk ▸ hj, ?_⟩ ?_
 ·have := le_r (n := st.n) (G := I.G k) (nx := I.nx) (df := 0) e0 rfl E W a (by rw [← hr]; exact hs)
  rw [← hk]
  exact this
 ·rintro m a1 W1 ⟨x, E1, rfl, hI, hj1, hs1⟩
  refine wpIn_mono (round x hI E1 W1 a1 hj1 hs1) ?_
  rintro e a' W' ⟨E', st', k', h1, h2, h3⟩
  cases e with
  | normal =>
   obtain ⟨x', q1, q2, rfl, q3⟩ := h3
   refine ⟨μ x', q1, x', E', rfl, q2, h1, ?_⟩
   refine ⟨by have := h2.d; exact this, h2.sz.trans (show st'.n = st.n from q3.n.1), fun i v hv => ?_, h2.g⟩
   have hcl : du st.l (u x') i = .any ∨ du st.l (u x') i = du st'.l st'.r i := by
    by_cases hi : i < st.l.length
    ·rcases yz _ _ q3.fits i (Nat.zero_le _) (by show i < 0 + st.l.length; omega) with h | h
     ·exact .inl h
     ·exact .inr h.symm
    ·rcases yq st.l (u x') i with ⟨p, hp, he, he2⟩ | ⟨_, he⟩
     ·rcases q3.keys with hk | hk
      ·have : p.1 < st.l.length := yh hk p hp
       omega
      ·rcases yy hk p hp with h | h
       ·left; rw [he2, h]
       ·right; rw [he2, ← h, he]; rfl
     ·left; rw [he, List.getD_eq_getElem?_getD, List.getElem?_eq_none (by omega)]; rfl
   show R E' W' (du st.l (u x') i) v
   rcases hcl with h | h
   ·rw [h]; exact .any
   ·rw [h]; exact h2.t i v hv
  | _ => exact ⟨E', st', k', h1, h2, h3⟩
/-- What plain code must leave. -/
def SegP (I : FC) (k : Nat) (l : List C) (n : Nat) (st' : St) : Prop := st'.df = 0 ∧ st'.n = n ∧ (st'.l = l ∨ lowN I.nx (st'.r.map (·.1)) 0 st'.l) ∧ I.nx ≤ st'.nx ∧ (∀ n o, I.G k n = some o → st'.G n = some o) ∧ lowR I.nx [] st'.r
theorem uaw (ok : I.Ok P) {E : Env} {W : World} {a : Act} (hj : I.J k E W) (hs : Sim E W (I.st st k) a) (hr : st.r = []) {E' : Env} {W' : World} {st' : St} {a' : Act} (h1 : Ev E W E' W') (h2 : Sim E' W' st' a') (h3 : SegP I k st.l st.n st') : I.J k (E'.drop I.nx) W' ∧ Sim (E'.drop I.nx) W' (I.st st' k) a' := by
 obtain ⟨q1, q2, q3, q4, q5, q6⟩ := h3
 have hnx : E.nx = I.nx := hs.g.nx
 have hlow := hs.lowG
 have hgl : ∀ n o, I.G k n = some o → n < I.nx ∧ o.low I.nx := hlow
 have hll : ∀ i, i < st.n → (st.l.getD i .any).low I.nx := fun i hi => by
  have := hs.low i hi
  have e : du (I.st st k).l (I.st st k).r i = st.l.getD i .any := by show du st.l st.r i = _; rw [hr]; rfl
  rw [e] at this
  exact this
 have hs' := h2.dropTo (st' := I.st st' k) rfl q1.symm q4 (fun i hi => .inr ⟨rfl, by
  rcases q3 with q3 | q3
  ·exact ucv (q3 ▸ hll i (q2 ▸ hi)) q6 rfl
  ·exact ucw (fun hk => ucx (i := 0) q3 (by rw [Nat.zero_add]; exact hk)) q6 rfl⟩) (fun n o ho => ⟨q5 n o ho, hgl n o ho⟩)
 exact ⟨ok.ev hj (h1.drop (by omega)) hs'.g, hs'⟩
/-- Plain code. -/
theorem yr (ok : I.Ok P) {c : Code} (hr : st.r = []) (h : AW none P c (fun e st' => SegP I k st.l st.n st' ∧ Q e st' k) (I.st st k)) : FW P I c Q st k := by
 intro E W a hj hs
 refine i2 ?_ (h E W a hs)
 rintro e a' W' ⟨st', E', h1, h2, h3⟩
 obtain ⟨q1, q2⟩ := uaw ok hj hs hr h1 h2 h3.1
 exact ⟨_, st', k, q1, q2, h3.2⟩
/-- .. so many pieces of it: what lies between. -/
def j3 (P : Program) (I : FC) (z : Code) (Q : Exit → St → Nat → Prop) (k : Nat) (st0 st1 : St) : Prop :=
 ∀ E0 W0 a0 E1 W1 a1, I.J k E0 W0 → Sim E0 W0 (I.st st0 k) a0 → Ev E0 W0 E1 W1 → Sim E1 W1 st1 a1 → cwp none P z (fun e a' W' => ∃ E' st' k', I.J k' E' W' ∧ Sim E' W' (I.st st' k') a' ∧ Q e st' k') a1 W1
theorem o1 {x z : Code} (h : AW none P x (o9 (j3 P I z Q k st) fun _ _ => False) (I.st st k)) : FW P I (.seq x z) Q st k := by
 intro E W a hj hs
 refine wpIn_seq (i2 ?_ (h E W a hs))
 rintro e a1 W1 ⟨st1, E1, h1, h2, h3⟩
 cases e with
 | normal => exact h3 E W a E1 W1 a1 hj hs h1 h2
 | _ => exact h3.elim
theorem vt {x z : Code} {st1 : St} (h : AW none P x (o9 (j3 P I z Q k st) fun _ _ => False) st1) : j3 P I (.seq x z) Q k st st1 := by
 intro E0 W0 a0 E1 W1 a1 hj hs hev hs1
 refine wpIn_seq (i2 ?_ (h E1 W1 a1 hs1))
 rintro e a2 W2 ⟨st2, E2, h1, h2, h3⟩
 cases e with
 | normal => exact h3 E0 W0 a0 E2 W2 a2 hj hs (hev.trans h1) h2
 | _ => exact h3.elim
theorem o4 (ok : I.Ok P) {z : Code} {st1 : St} (hr : st.r = []) (hp : SegP I k st.l st.n st1) (h : FW P I z Q st1 k) : j3 P I z Q k st st1 := by
 intro E0 W0 a0 E1 W1 a1 hj hs hev hs1
 obtain ⟨q1, q2⟩ := uaw ok hj hs hr hev hs1 hp
 exact h _ W1 a1 q1 q2
theorem udk {id : Nat} {l : List Oper} (h : rh P I l.toArray (Q .normal) l st k) : FW P I (.region id l.toArray false) Q st k := fun E W a hj hs =>
 wpIn_region_lit (h E W a hj hs _ fun a' E' W' st' k' h0 h1 h2 => ⟨E', st', k', h0, h1, h2⟩)
variable {ops : Array Oper} {K : St → Nat → Prop} {rest : List Oper} {o : Oper} {c : C}
theorem udo (h : K st k) : rh P I ops K [] st k := fun E W a hj hs _ hq => wpListIn_nil (hq a E W st k hj hs h)
theorem px (hg : fg ops st o = some true) (hq : NStep P o (I.st st k) c) (h : rh P I ops K rest (st.put o.dst c) k) : rh P I ops K (o :: rest) st k := by
 intro E W a hj hs Q hQ
 have hg' : fg ops (I.st st k) o = some true := hg
 refine wpListIn_step fun Kr hK => ?_
 rw [if_pos (j5 hg' hs)]
 obtain ⟨v, h1, h2⟩ := hq E W a hs
 refine xw (vq hg).2 ?_
 unfold Oper.wp
 rw [h2 W]
 have hp := hs.put o.dst h1
 exact hK _ _ (h E W _ hj (by cases hd : o.dst <;> (rw [hd] at hp; exact hp)) Q hQ)
/-- A call of yield. -/
theorem udn (ok : I.Ok P) {fv : Operand} {args : List Operand} {ats : Array TypeId} {cs : List C} (hk : k < I.N) (hg : fg ops st o = some true) (ho : o.op = .call { callee := .value fv, args := args.toArray, argTypes := ats }) (hf : evC st fv = .v (.func (.yield I.l) #[] #[])) (has : args.map (evC st) = cs) (hcs : cs = I.cl k)
  (h1 : rh P I ops K rest (st.put o.dst (.v (.bool true))) (k + 1)) : rh P I ops K (o :: rest) st k := by
 intro E W a hj hs Q hQ
 have hg' : fg ops (I.st st k) o = some true := hg
 have hf' : evC (I.st st k) fv = .v (.func (.yield I.l) #[] #[]) := hf
 refine wpListIn_step fun Kr hK => ?_
 rw [if_pos (j5 hg' hs)]
 have hfv := (hf' ▸ hs.ev fv).v_inv
 subst hcs
 have hra : Rs E W (I.cl k) (args.map a.eval) := by
  rw [← has]
  refine ⟨by simp, fun j c v h1 h2 => ?_⟩
  rw [List.getElem?_map] at h1 h2
  cases hx : args[j]? with
  | none => rw [hx] at h1; cases h1
  | some x =>
   rw [hx] at h1 h2
   simp only [Option.map_some, Option.some.injEq] at h1 h2
   subst h1; subst h2
   exact hs.ev x
 obtain ⟨fn, tmps, assign, body, hy, hR⟩ := ok.hY hj hk hra
 refine ⟨fun _ _ => trivial, ?_⟩
 rw [Oper.semAt_eq _ _ _ (vq hg).2]
 have hrun : (execOp a.eval o).run P W = .ok (.round I.l fn tmps assign body) W := by
  simp only [execOp, ho, resolve, hfv]
  simp [Deferred.ofValue, invoke]
  simpa using hy
 rw [hrun]
 refine ⟨fun e => (by cases e), uh5 (hR.mono ?_)⟩
 rintro e W' ⟨rfl, E', h3, h4⟩
 refine hK _ _ (h1 E' W' _ h4 ?_ Q hQ)
 have hdef : a.defers = [] := List.eq_nil_of_length_eq_zero hs.d.2
 have hs' : Sim E' W' (I.st st (k + 1)) a := by
  refine ⟨⟨?_, hs.d.2⟩, hs.sz, fun i v hv => (hs.t i v hv).evr h3, ok.sim h4⟩
  rw [hdef]
  exact ok.F h4
 have hp := hs'.put o.dst (c := .v (.bool true)) (v := .bool true) (.v rfl)
 cases hd : o.dst <;> (rw [hd] at hp; exact hp)
end
theorem Rs.evr2 {E E' : Env} {w w' : World} {cs : List C} {vs : List Value} (h : Rs E w cs vs) (k : Ev E w E' w') : Rs E' w' cs vs := ⟨h.1, fun j c v h1 h2 => (h.2 j c v h1 h2).ev k⟩
theorem udb {nF : Nat} {F : GObj} {P : Program} {gf : Nat} {fn : Func} {c : Code} {caps : List C} {N : Nat} {cl : Nat → List C} (hf : P.funcs[gf]? = some fn) (hb : fn.body = some c) (hr : fn.results = #[])
  (h : ∀ I : FC, I.N = N → I.cl = cl → I.Ok P → (∀ k, I.G k nF = some F) → nF < I.nx →
   FW P I c (fun e _ k => (e = .normal ∨ e = .ret) ∧ k = N) { n := caps.length + 1 + (fn.ntmps - (caps.length + 1)), l := .v (.func (.yield I.l) #[] #[]) :: caps, r := [], G := noG, nx := 0 } 0) : wh nF F P gf caps N cl := by
 intro I hN hcl ok hG hn E w lb hj hrs
 have hargs : Rs E w (.v (.func (.yield I.l) #[] #[]) :: caps) (.func (.yield I.l) #[] #[] :: lb) := Rs.cons (.v rfl) hrs
 have hsim := Sim.start hargs (ok.sim hj) (ok.F hj) fn.ntmps
 have e1 : (#[.func (.yield I.l) #[] #[]] ++ lb.toArray : Array Value) = (.func (.yield I.l) #[] #[] :: lb).toArray := by simp
 rw [e1]
 have hw := h I hN hcl ok hG hn E w _ hj (show Sim E w (FC.st I _ 0) _ by unfold FC.st; simpa using hsim)
 refine callsIn_of_wp_marks hf hb trivial (wpIn_mono (uei (m := 2) hw) ?_)
 rintro e a' w' ⟨E', st', k', q1, q2, q3, rfl⟩
 have hd : a'.defers = [] := List.eq_nil_of_length_eq_zero q2.d.2
 have fin : bodyPostM (fen none) 2 P fn (fun e W' => (∃ v, e = .returned v) ∧ ∃ E', I.J k' E' W') .ret a' w' := by
  show LeavesInM (fen none) 2 P fn a'.tmps _ a'.defers .returning w'
  rw [hd]
  exact ⟨_, results_none hr _ _ _, ⟨_, rfl⟩, E', q1⟩
 rcases q3 with rfl | rfl
 ·exact fin
 ·exact fin

def tu (J : Nat → Nat → Option GObj) (k : Nat) (e : Exit) (st : St) : Prop :=
 match e with
 | .normal => ∀ n o, J k n = some o → st.G n = some o
 | _ => False
theorem ue3 {P : Program} {nF : Nat} {F : GObj} {N : Nat} {g : Operand} {ps : Array Tmp} {assign body : Code} {Q : Exit → St → Prop} {st : St} {gf : Nat} [Fun P gf] {caps : List C} {cl : Nat → List C} (pl : List Tmp)
  (J : Nat → Nat → Option GObj) (u : Nat → List (Nat × C)) (it : wh nF F P gf caps N cl) (hJF : ∀ k, J k nF = some F) (hnF : nF < st.nx)
  (hg : evC st g = .fn (.func gf) caps) (hps : ps = pl.toArray) (hlen : ∀ k, (cl k).length = pl.length)
  (hu : ∀ k, putL pl (cl k) { st with G := J k, df := 0 } = { st with r := u k, G := J k, df := 0 })
  (h0 : ∀ n o, J 0 n = some o → st.G n = some o) (hJ : ∀ k n o, J k n = some o → st.G n = some o ∨ (n < st.nx ∧ o.low st.nx))
  (round : ∀ l k, k < N → AW (some l) P assign (o9 (AW (some l) P body (tu J (k + 1))) fun _ _ => False) { st with r := u k, G := J k, df := 0 })
  (done : Q .normal { st with G := J N, df := st.df + 1 }) : AW none P (.rangeFunc g ps assign body) Q st := by
 intro E w a hs
 obtain ⟨vs, hgv, hvs⟩ := (hg ▸ hs.ev g).fn_inv
 have hlow : ∀ {G : Nat → Option GObj}, (∀ n o, G n = some o → st.G n = some o ∨ (n < st.nx ∧ o.low st.nx)) → ∀ n o, G n = some o → n < st.nx ∧ o.low st.nx := fun h n o ho => by
  rcases h n o ho with h1 | h1
  ·exact hs.lowG n o h1
  ·exact h1
 have hF : E.F ≤ w.heap.size := hs.d.F
 have hnx := hs.g.nx
 have simAt : ∀ {E1 : Env} {W : World} {G : Nat → Option GObj} {ds : List Deferred} {k : Nat}, Ev E w E1 W → SimG E1 W G st.nx → DefN E1 W k ds → Sim E1 W { st with G := G, df := k } { a with defers := ds } := fun hev hg1 hd =>
  ⟨hd, hs.sz, fun i v hv => (hs.t i v hv).ev hev, hg1⟩
 have marked : ∀ {E1 : Env} {W : World} {D : Nat}, Ev E w E1 W → (∀ n t, E1.T n = some t → n < st.nx) → NCB st.nx w.heap.size E1 W → w.heap.size ≤ D → W.heap[D]? = some (.deferred (some [])) → DefN E1 W (st.df + 1) ({ target := .collected D, args := #[] } :: a.defers) := fun {E1 W D} hev hlt hn hD hK => by
  refine ⟨⟨⟨D, rfl, by rw [hev.x.F]; omega, hK, fun n t ht hb => ?_, ?_⟩, (hs.d.ev hev).1⟩, by simp [hs.d.2]⟩
  ·have := hn n t D _ (hlt n t ht) ht hb hK rfl
   omega
  ·have : ∀ {ds : List Deferred}, DefOk E w ds → ∀ d' ∈ ds, d'.target ≠ .collected D := by
    intro ds
    induction ds with
    | nil => exact fun _ d' h => by cases h
    | cons d ds ih =>
     rintro ⟨⟨D', e', _, h2, _⟩, k⟩ d' hd'
     rcases List.mem_cons.1 hd' with rfl | hd'
     ·rw [e']
      intro e
      simp only [Target.collected.injEq] at e
      have := (Array.getElem?_eq_some_iff.1 h2).1
      omega
     ·exact ih k d' hd'
   exact this hs.d.1
 refine uei (n := 3) (wpIn_rangeFunc fun fn _ => ?_)
 -- the loop's record and the block for deferred calls
 obtain ⟨rc, hrc⟩ : ∃ rc : LoopState → Option Code → Loop, rc = fun s pe => { state := s, pending := pe, fn, tmps := a.tmps, params := ps, assign, body, defers := w.heap.size } := ⟨_, rfl⟩
 obtain ⟨W1, hW1⟩ : ∃ W1, (w.alloc (.deferred (some []))).alloc (.loop (rc .ready none)) = W1 := ⟨_, rfl⟩
 have sz1 : W1.heap.size = w.heap.size + 2 := by rw [← hW1]; simp
 have gr1 : w.grownBy W1 none := by
  refine ⟨by rw [← hW1]; rfl, by rw [← hW1]; rfl, by rw [← hW1]; rfl, by omega, fun k hk _ => ?_⟩
  rw [← hW1, Below.heap_alloc _ _ _ (by simp; omega), Below.heap_alloc _ _ _ hk]
 have recs : W1.heap[w.heap.size + 1]? = some (.loop (rc .ready none)) ∧ W1.heap[w.heap.size]? = some (.deferred (some [])) := by
  rw [← hW1]
  refine ⟨by have := World.alloc_heap_new (w.alloc (.deferred (some []))) (.loop (rc .ready none)); simpa using this, ?_⟩
  rw [Below.heap_alloc _ _ _ (by simp)]
  exact World.alloc_heap_new w _
 have own1 : OwnW E w (J 0) st.nx W1 := OwnW.turn hs.g ⟨E, Ev.refl E w, hs.g.weak h0, fun n t b o _ ht hb _ _ => (hs.g.tb n t.1 t.2.1 t.2.2 b ht hb).2⟩ gr1 (fun r e => by cases e)
 refine ⟨w.heap.size + 1, [{ target := .collected w.heap.size, args := #[] }], W1, { target := .fn (.func gf) vs.toArray, args := #[.func (.yield (w.heap.size + 1)) #[] #[]] }, W1, gf, #[.func (.yield (w.heap.size + 1)) #[] #[]] ++ vs.toArray, W1, ?_, ?_, fun _ _ => trivial, ?_, fun e => (by cases e), ?_⟩
 ·rw [← hW1, hrc]; exact run_enterLoop_outer _ _ _ _ _
 ·simp only [resolve, hgv]; simp [go_sem]
 ·simp [invoke, go_sem, xj]
 have below1 : Below w.heap.size w W1 := ⟨gr1.os, gr1.tape, gr1.output, gr1.size, fun k hk => gr1.block k hk (by simp)⟩
 obtain ⟨E0, hev0, hsg0, hn0⟩ := own1
 have unt : ∀ {E1 : Env} {W : World} {k : Nat} {G : Nat → Option GObj} {o : Obj}, SimG E1 W G st.nx → NCB st.nx w.heap.size E1 W → w.heap.size ≤ k → W.heap[k]? = some o → o.isCells = false → ∀ n t, E1.T n = some t → blk t.2.2 ≠ some k := fun {E1 W k G o} hs1 hn hk' ho hf n t ht hb => by
  have hE1 : E1.nx = st.nx := hs1.nx
  have := hn n t k o (hE1 ▸ hs1.lt n t ht) ht hb ho hf
  omega
 obtain ⟨I, hI⟩ : ∃ I : FC, I = { G := J, nx := st.nx, N := N, l := w.heap.size + 1, cl := cl, J := fun k E1 W => Ev E w E1 W ∧ SimG E1 W (J k) st.nx ∧ NCB st.nx w.heap.size E1 W ∧ W.heap[w.heap.size + 1]? = some (.loop (rc .ready none)) ∧ W.heap[w.heap.size]? = some (.deferred (some [])) } := ⟨_, rfl⟩
 have hIJ : ∀ k E1 W, I.J k E1 W = (Ev E w E1 W ∧ SimG E1 W (J k) st.nx ∧ NCB st.nx w.heap.size E1 W ∧ W.heap[w.heap.size + 1]? = some (.loop (rc .ready none)) ∧ W.heap[w.heap.size]? = some (.deferred (some []))) := fun k E1 W => by rw [hI]
 have ok : I.Ok P := by
  refine ⟨fun {k E1 W} h => ?_, fun {k E1 W} h => ?_, fun {k E1 W E2 W2} h h1 h2 => ?_, ?_⟩
  ·rw [hIJ] at h; rw [hI]; exact h.2.1
  ·rw [hIJ] at h
   rw [h.1.x.F]; exact Nat.le_trans hF h.1.below.size
  ·rw [hIJ] at h ⊢
   rw [hI] at h2
   obtain ⟨q1, q2, q3, q4, q5⟩ := h
   have hE1 : E1.nx = st.nx := q2.nx
   exact ⟨q1.trans h1, h2, q3.step (by omega) q2 h1, h1.x.oth _ _ q4 (unt q2 q3 (by omega) q4 rfl), h1.x.oth _ _ q5 (unt q2 q3 (Nat.le_refl _) q5 rfl)⟩
  -- a round
  rintro k E1 W us hj hkN hcl
  rw [hIJ] at hj
  obtain ⟨hev, hs1, hn, hl, hk⟩ := hj
  have hkN' : k < N := by rw [hI] at hkN; exact hkN
  replace hcl : Rs E1 W (cl k) us := by rw [hI] at hcl; exact hcl
  have hul : us.length = pl.length := by rw [hcl.1]; exact hlen k
  have hE1 : E1.nx = st.nx := hs1.nx
  have unt : ∀ {k : Nat} {o : Obj}, w.heap.size ≤ k → W.heap[k]? = some o → o.isCells = false → ∀ n t, E1.T n = some t → blk t.2.2 ≠ some k := fun h1 h2 h3 => unt hs1 hn h1 h2 h3
  have hIl : I.l = w.heap.size + 1 := by rw [hI]
  rw [hIl]
  have hy := run_yield (P := P) (args := us.toArray) hl (by rw [hrc]; simp [hps, hul])
  rw [hrc] at hy
  refine ⟨fn, _, assign, body, hy, roundIn_of_wpIn trivial ?_⟩
  clear hy
  have ha0 : ({ tmps := (ps.zip us.toArray).foldl (fun t (p, v) => t.setIfInBounds p v) a.tmps, defers := [] } : Act) = r5 pl us { tmps := a.tmps, defers := [] } := by
   rw [ubf, hps]
   simp
  have hF1 : E1.F ≤ W.heap.size := by rw [hev.x.F]; exact Nat.le_trans hF hev.below.size
  have hsim := uat pl hcl (simAt (ds := []) (k := 0) hev hs1 ⟨hF1, rfl⟩)
  rw [hu k] at hsim
  show assign.wpIn (fen (some (w.heap.size + 1))) 1 P _ { tmps := (ps.zip us.toArray).foldl (fun t (p, v) => t.setIfInBounds p v) a.tmps, defers := [] } W
  rw [ha0]
  refine wpIn_mono (round (w.heap.size + 1) k hkN' E1 W _ hsim) ?_
  rintro e a1 Wa ⟨st1, E2, q1, q2, q3⟩
  cases e with
  | normal =>
   have hla := q1.x.oth _ _ hl (unt (by omega) hl rfl)
   have hka := q1.x.oth _ _ hk (unt (Nat.le_refl _) hk rfl)
   have hlta := (Array.getElem?_eq_some_iff.1 hla).1
   refine ⟨_, run_beginRound hla (by rw [hrc]), ?_⟩
   -- the record is busy
   have unt2 : ∀ {k : Nat} {o : Obj}, w.heap.size ≤ k → W.heap[k]? = some o → o.isCells = false → ∀ n t, E2.T n = some t → blk t.2.2 ≠ some k := fun {k o} hk' ho hf n t ht hb => by
    obtain ⟨t0, h1, h2⟩ := q1.x.nb n t k o ht hb ho
    exact unt hk' ho hf n t0 h1 h2
   obtain ⟨Wb, hWb⟩ : ∃ Wb, Wa.putObj (w.heap.size + 1) (.loop { rc .ready none with state := .busy }) = Wb := ⟨_, rfl⟩
   rw [hWb]
   have grb : Wa.grownBy Wb (some (w.heap.size + 1)) := hWb ▸ grownBy_putObj' _ _ _
   have hlb : Wb.heap[w.heap.size + 1]? = some (.loop { rc .ready none with state := .busy }) := hWb ▸ World.putObj_heap_same hlta
   have hkb : Wb.heap[w.heap.size]? = some (.deferred (some [])) := (grb.block _ (Array.getElem?_eq_some_iff.1 hka).1 (by simp)).trans hka
   obtain ⟨evb, hcellb⟩ := (hev.trans q1).turn hs.g q2.g.fresh grb (fun r e => by cases e; exact ⟨by omega, _, hla, rfl⟩)
   have hblkb : ∀ n t b, E2.T n = some t → blk t.2.2 = some b → Wb.heap[b]? = Wa.heap[b]? := fun n t b ht hb => by
    refine grb.block b (q2.g.tb n t.1 t.2.1 t.2.2 b ht hb).2 fun e => ?_
    simp only [Option.some.injEq] at e
    subst e
    exact unt2 (by omega) hl rfl n t ht hb
   have gb := q2.g.heap hcellb hblkb grb.size
   have db : DefN E2 Wb st1.df a1.defers := by
    have : ∀ {ds : List Deferred}, DefOk E2 Wa ds → DefOk E2 Wb ds := by
     intro ds
     induction ds with
     | nil => exact fun h => Nat.le_trans h grb.size
     | cons d ds ih =>
      rintro ⟨⟨D', e', h1, h2, h3, h4⟩, k⟩
      refine ⟨⟨D', e', h1, (grb.block D' (Array.getElem?_eq_some_iff.1 h2).1 fun e => ?_).trans h2, h3, h4⟩, ih k⟩
      simp only [Option.some.injEq] at e
      subst e
      rw [hla] at h2; cases h2
    exact ⟨this q2.d.1, q2.d.2⟩
   have simb : Sim E2 Wb st1 a1 := ⟨db, q2.sz, fun i v hv => (q2.t i v hv).same (fun _ => Nat.le_refl _) hcellb rfl rfl, gb⟩
   have nb2 : NCB st.nx w.heap.size E2 Wb := fun n t b o hm ht hb ho hf => by
    have := hblkb n t b ht hb
    exact hn.step (by omega) hs1 q1 n t b o hm ht hb (this.symm.trans ho) hf
   have hm2 : st.nx ≤ E2.nx := hE1 ▸ q1.nx
   refine wpIn_mono (q3 E2 Wb a1 simb) ?_
   rintro e a3 W3 ⟨st', E3, r1, r2, r3⟩
   have hl3 := r1.x.oth _ _ hlb (unt2 (by omega) hl rfl)
   have hk3 := r1.x.oth _ _ hkb (unt2 (Nat.le_refl _) hk rfl)
   have nb3 := nb2.step hm2 gb r1
   have own : ∀ {Gk : Nat → Option GObj}, (∀ n o, Gk n = some o → st'.G n = some o) → (∀ n o, Gk n = some o → n < st.nx ∧ o.low st.nx) → OwnW E w Gk st.nx W3 := fun {Gk} hsub hlw =>
    ⟨E3.drop st.nx, (evb.trans r1).drop (by omega), (r2.g.weak hsub).drop hlw, fun n t b o hm ht hb ho hf => nb3 n t b o hm (by simp only [Env.drop] at ht; rw [if_pos hm] at ht; exact ht) hb ho hf⟩
   -- the end of the round
   have fin : ∀ (jump : Option Code), (Instr.endRound (w.heap.size + 1) jump).run P W3 = .ok (.bool jump.isNone) (W3.putObj (w.heap.size + 1) (.loop (rc (if jump.isNone then .ready else .done) jump))) ∧
     (W3.putObj (w.heap.size + 1) (.loop (rc (if jump.isNone then .ready else .done) jump))).heap[w.heap.size + 1]? = some (.loop (rc (if jump.isNone then .ready else .done) jump)) ∧
     (W3.putObj (w.heap.size + 1) (.loop (rc (if jump.isNone then .ready else .done) jump))).heap[w.heap.size]? = some (.deferred (some [])) := fun jump => by
    refine ⟨?_, World.putObj_heap_same (Array.getElem?_eq_some_iff.1 hl3).1, (World.putObj_heap_other (by omega)).trans hk3⟩
    have := run_endRound (P := P) jump hl3
    rw [hrc] at this ⊢
    exact this
   have keep : ∀ jump, KeepL E W (W3.putObj (w.heap.size + 1) (.loop (rc (if jump.isNone then .ready else .done) jump))) := fun jump => ⟨by
    rw [World.putObj_size]
    exact Nat.le_trans q1.below.size (Nat.le_trans grb.size r1.below.size), fun b i hi => by
    have hne : b ≠ w.heap.size + 1 := fun e => by subst e; rw [hs.g.fresh _ (by omega)] at hi; omega
    refine (World.cell?_of_block (w := W3) (World.putObj_heap_other hne)).trans ?_
    have h1 : i < E1.L b := Nat.lt_of_lt_of_le hi (hev.L b)
    have h2 : i < E2.L b := Nat.lt_of_lt_of_le h1 (q1.L b)
    exact (r1.cell b i h2).trans ((hcellb b i h2).trans (q1.cell b i h1))⟩
   cases e with
   | normal =>
    obtain ⟨h1, h2, h3⟩ := fin none
    have hjm : ∀ n o, J (k + 1) n = some o → n < st.nx ∧ o.low st.nx := hlow (hJ _)
    have hown : OwnW E w (J (k + 1)) st.nx W3 := own r3 hjm
    have hevd : Ev E w (E3.drop st.nx) W3 := (evb.trans r1).drop (by omega)
    have hsgd : SimG (E3.drop st.nx) W3 (J (k + 1)) st.nx := (r2.g.weak r3).drop hjm
    have hncd : NCB st.nx w.heap.size (E3.drop st.nx) W3 := fun n t b o hm ht hb ho hf => nb3 n t b o hm (by simp only [Env.drop] at ht; rw [if_pos hm] at ht; exact ht) hb ho hf
    obtain ⟨W4, hW4⟩ : ∃ W4, W3.putObj (w.heap.size + 1) (.loop (rc (if (none : Option Code).isNone then .ready else .done) none)) = W4 := ⟨_, rfl⟩
    have gr4 : W3.grownBy W4 (some (w.heap.size + 1)) := hW4 ▸ grownBy_putObj' _ _ _
    have hrow : ∀ r, some (w.heap.size + 1) = some r → w.heap.size ≤ r ∧ ∃ o : Obj, W3.heap[r]? = some o ∧ o.isCells = false := fun r e => by cases e; exact ⟨by omega, _, hl3, rfl⟩
    obtain ⟨ev4, hcell4⟩ := hevd.turn hs.g hsgd.fresh gr4 hrow
    have unt3 : ∀ n t b, (E3.drop st.nx).T n = some t → blk t.2.2 = some b → W4.heap[b]? = W3.heap[b]? := fun n t b ht hb => by
     refine gr4.block b (hsgd.tb n t.1 t.2.1 t.2.2 b ht hb).2 fun e => ?_
     simp only [Option.some.injEq] at e
     subst e
     have := hncd n t _ _ (hsgd.nx ▸ hsgd.lt n t ht) ht hb hl3 rfl
     omega
    have hsg4 : SimG (E3.drop st.nx) W4 (J (k + 1)) st.nx := hsgd.heap hcell4 unt3 gr4.size
    have hnc4 : NCB st.nx w.heap.size (E3.drop st.nx) W4 := fun n t b o hm ht hb ho hf => hncd n t b o hm ht hb ((unt3 n t b ht hb).symm.trans ho) hf
    rw [hW4] at h1 h2 h3
    refine ⟨_, _, h1, rfl, E3.drop st.nx, ?_, ?_⟩
    ·have t1 : EvR E1 W E2 Wb := q1.r.trans (EvR.same hcellb)
     have t2 : EvR E1 W (E3.drop st.nx) W3 := (t1.trans r1.r).drop (by omega)
     exact t2.trans (EvR.same hcell4)
    ·rw [hIJ]
     exact ⟨ev4, hsg4, hnc4, h2, h3⟩
   | _ => exact r3.elim
  | _ => exact q3.elim
 have hcall := it I (by rw [hI]) (by rw [hI]) ok (fun k => by rw [hI]; exact hJF k) (by rw [hI]; exact hnF) E0 W1 vs (by rw [hIJ]; exact ⟨hev0, hsg0, hn0, recs.1, recs.2⟩) (hvs.evr2 hev0)
 rw [show I.l = w.heap.size + 1 by rw [hI]] at hcall
 refine hcall.mono ?_
 -- behind the iterator
 rintro e W2 ⟨⟨v, rfl⟩, E1, hj⟩
 rw [hIJ] at hj
 obtain ⟨hevj, hsj, hnj, hl, hk⟩ := hj
 have hI2 : OwnW E w (J N) st.nx W2 := ⟨E1, hevj, hsj, hnj⟩
 obtain ⟨E1, hev, hs1, hn⟩ := hI2.put hs.g (by omega) hl rfl (.loop { rc .ready none with state := .exhausted })
 have hK : (W2.putObj (w.heap.size + 1) (.loop { rc .ready none with state := .exhausted })).heap[w.heap.size]? = some (.deferred (some [])) := (World.putObj_heap_other (by omega)).trans hk
 exact ⟨none, _, by have := run_endLoop (P := P) hl (by rw [hrc]; simp); rw [hrc] at this ⊢; exact this, _, E1, hev, simAt hev hs1 (marked hev (fun n t ht => hs1.nx ▸ hs1.lt n t ht) hn (Nat.le_refl _) hK), done⟩
end Go.AB
namespace Go.AB
open Go Go.RowKit
open Go.AB.Enc (cells)
open Go.PB (ba ai PlaceD bh bj bi bw aw ah cw br dg dl)
/-- how many readers are ahead of a side -/
def sdN (p : ah) : Nat → Nat
 | 0 => 0
 | 1 => p.firsts.length
 | _ => p.firsts.length + p.seconds.length
theorem xg {p : ah} : ∀ {k : Nat}, k < 2 → sdN p (k + 1) = sdN p k + (dv p (decide (k = 1))).length
 | 0, _ => (Nat.zero_add _).symm
 | 1, _ => rfl
 | k + 2, h => by omega
theorem ukr {p : ah} : ∀ {k i : Nat}, k < 2 → i < (dv p (decide (k = 1))).length → c4 p (sdN p k + i) = mz p (decide (k = 1)) i ∧ sdN p k + i < bt p
 | 0, i, _, h => by
  have h : i < p.firsts.length := h
  rw [show sdN p 0 + i = i from Nat.zero_add i]
  unfold c4 bt
  rw [decide_eq_true h]
  exact ⟨rfl, by omega⟩
 | 1, i, _, h => by
  have h : i < p.seconds.length := h
  rw [show sdN p 1 + i = p.firsts.length + i from rfl]
  unfold c4 bt
  rw [decide_eq_false (by omega), Nat.add_sub_cancel_left]
  exact ⟨rfl, by omega⟩
 | k + 2, _, h, _ => by omega
end Go.AB
namespace Go.Proofs.YtbbdginipiljdaaGreatDoor
set_option maxRecDepth 10000
open Go Go.RowKit Go.AB
open Go.AB.Enc (cells)
open Go.PB (ba ai PlaceD bh bj bi bw aw ah cw br dg dl)
set_option maxHeartbeats 1000000 in
theorem ukq (nF : Nat) (p : ah) (h : eg p) : wh nF ez Tryz.prog 110 [.elem [.elem (kh p)]] (bt p) (fun k => [.v (.int .i64 (c4 p k))]) := by
 refine udb Tryz.func110 rfl rfl fun I hN hcl ok hG hn => ?_
 simp only [Tryz.ntmps110, List.length_cons, List.length_nil, Nat.reduceAdd, Nat.reduceSub]
 have hn1 := h.nf
 have hn2 := h.ns
 refine kp 2 ?_
 refine zQ ?_
 refine o1 ?_
 dsimp only [FC.st]
 refine cc fun hlt => ?_
 dsimp only at hlt
 refine i3 ?_
 try dsimp only [St.put]
 refine ck rfl (mq (n := 6) (m := nF) rfl rfl (hG _) rfl) ?_
 refine aa rfl (fb rfl (by constructor)) ?_
 refine i4 ?_
 dsimp only [St.put]
 show j3 _ _ _ _ _ _ _
 refine o4 ok rfl ⟨rfl, rfl, zK, zN, zS, zK⟩ ?_
 refine qt ?_
 refine kp 10 ?_
 refine zQ ?_
 refine yu (X := Nat) (fun k => k ≤ 2) (fun k => 2 - k) (fun k => [(2, .any), (3, .any), (4, .any), (5, .any), (6, .any), (7, .any), (9, .v (.int .i64 (k : Int)))]) (fun k => sdN p k) 0 rfl ?_ ?_ ?_ ?_ ?_
 ·exact Nat.zero_le _
 ·exact zF
 ·rfl
 ·rintro k hI
  exact zL
 ·rintro k hI
  dsimp only at hI ⊢
  refine kp 10 ?_
  refine zQ ?_
  refine o1 ?_
  dsimp only [FC.st]
  refine cc fun hlt => ?_
  dsimp only at hlt
  refine i3 ?_
  refine aa rfl (cp rfl rfl rfl) ?_
  refine i4 ?_
  dsimp only [St.put]
  show j3 _ _ _ _ _ _ _
  refine o4 ok rfl ⟨rfl, rfl, zK, zN, zS, zK⟩ ?_
  refine oz fun K1 hK1 => ?_
  refine td rfl (fun hc => ?_) (fun hc => ?_)
  ·replace hc := of_decide_eq_true hc
   have hk : k < 2 := by omega
   have hsl : (dv p (decide (k = 1))).length ≤ 3 := by
    cases decide (k = 1)
    ·exact hn1
    ·exact hn2
   refine ta ?_
   refine hK1 _ _ ?_
   refine oz fun K2 hK2 => ?_
   refine qt ?_
   refine kp 10 ?_
   refine zQ ?_
   refine o1 ?_
   dsimp only [FC.st]
   refine cc fun hlt => ?_
   dsimp only at hlt
   refine i3 ?_
   refine aa rfl (uy (k := k) (m := 2) (sz := 3) rfl rfl rfl rfl hk (uh hk)) ?_
   try dsimp only [St.put]
   refine af rfl (dx rfl ?_)
   try dsimp only [St.put]
   first | refine af rfl (dh rfl rfl rfl zG rfl rfl (by rfl) ?_) | refine af rfl (cd rfl rfl rfl zG (by constructor) rfl zO ?_)
   refine i4 ?_
   dsimp only [St.put]
   show j3 _ _ _ _ _ _ _
   refine vt ?_
   refine gh (i := 4) rfl zG zC ?_
   dsimp only
   refine g7 [(0, none), (1, none), (2, none), (3, none), (4, none), (5, none), (8, none), (6, none), (7, none)] (fun i => [6].contains i) (fun i => [6].contains i) (fun i => [0, 3, 4, 7, 8].contains i) [] (by kernel_rfl) (by kernel_rfl) ?_
   first | refine ae rfl rfl rfl rfl (cx rfl rfl rfl) ?_ | refine ae rfl rfl rfl rfl (bk rfl rfl) ?_
   try dsimp only [St.put]
   first | refine bd rfl rfl rfl rfl (cm rfl rfl) ?_ | refine bd rfl rfl rfl rfl (e8 rfl rfl (Enc.len _)) ?_ | refine bd rfl rfl rfl rfl (e8 rfl rfl rfl) ?_ | refine bd rfl rfl rfl rfl (fu rfl rfl zG (by simp) (by first | rfl | assumption)) ?_ | refine bd rfl rfl rfl rfl (i1 rfl rfl zG (by simp) (by rfl)) ?_ | refine bd rfl rfl rfl rfl (ph rfl rfl zG (by simp) (by simp)) ?_ | refine bd rfl rfl rfl rfl (kz rfl rfl zG (by simp) (py (by assumption) rfl)) ?_ | refine bd rfl rfl rfl rfl (kz rfl rfl zG (by simp) (by assumption)) ?_ | refine bd rfl rfl rfl rfl (qd rfl rfl zG (by simp) rfl (by assumption) rfl (by decide)) ?_ | refine bd rfl rfl rfl rfl (mq rfl rfl zG (by rfl)) ?_
   try dsimp only [St.put]
   first | refine bd rfl rfl rfl rfl (cm rfl rfl) ?_ | refine bd rfl rfl rfl rfl (e8 rfl rfl (Enc.len _)) ?_ | refine bd rfl rfl rfl rfl (e8 rfl rfl rfl) ?_ | refine bd rfl rfl rfl rfl (fu rfl rfl zG (by simp) (by first | rfl | assumption)) ?_ | refine bd rfl rfl rfl rfl (i1 rfl rfl zG (by simp) (by rfl)) ?_ | refine bd rfl rfl rfl rfl (ph rfl rfl zG (by simp) (by simp)) ?_ | refine bd rfl rfl rfl rfl (kz rfl rfl zG (by simp) (py (by assumption) rfl)) ?_ | refine bd rfl rfl rfl rfl (kz rfl rfl zG (by simp) (by assumption)) ?_ | refine bd rfl rfl rfl rfl (qd rfl rfl zG (by simp) rfl (by assumption) rfl (by decide)) ?_ | refine bd rfl rfl rfl rfl (mq rfl rfl zG (by rfl)) ?_
   first | refine ae rfl rfl rfl rfl (k7 rfl rfl) ?_ | refine ae rfl rfl rfl rfl (ce rfl rfl) ?_ | refine ae rfl rfl rfl rfl (ujx rfl rfl) ?_
   first | refine ae rfl rfl rfl rfl (cx rfl rfl rfl) ?_ | refine ae rfl rfl rfl rfl (bk rfl rfl) ?_
   try dsimp only [St.put]
   refine bd rfl rfl rfl rfl (c := val p) (j0 (cs := kh p) rfl rfl (show 4 ≤ 7 by decide)) ?_
   refine ae rfl rfl rfl rfl (fb rfl (by constructor)) ?_
   refine jo ?_
   try dsimp only [St.put]
   refine g8 rfl rfl rfl rfl (bc rfl rfl rfl (ou (decide (k = 1)) p) ?_)
   first | refine c8 rfl rfl rfl rfl (bp rfl rfl (List.length_map _)) ?_ | refine c8 rfl rfl rfl rfl (bp rfl rfl rfl) ?_ | refine c8 rfl rfl rfl rfl (sk rfl rfl) ?_ | refine c8 rfl rfl rfl rfl (uj1 rfl rfl) ?_ | refine c8 rfl rfl rfl rfl (uj0 rfl rfl) ?_ | refine c8 rfl rfl rfl rfl (ujz rfl rfl (by omega)) ?_
   refine ji ?_
   dsimp only [St.put]
   show j3 _ _ _ _ _ _ _
   refine o4 ok rfl ⟨rfl, rfl, zK, zN, zS, zK⟩ ?_
   refine qt ?_
   refine kp 21 ?_
   refine zQ ?_
   refine yu (X := Nat) (fun i => i ≤ (dv p (decide (k = 1))).length) (fun i => (dv p (decide (k = 1))).length - i) (fun i => [(5, .any), (6, .any), (7, .any), (20, .v (.int .i64 (i : Int)))]) (fun i => sdN p k + i) 0 rfl ?_ ?_ ?_ ?_ ?_
   ·exact Nat.zero_le _
   ·exact zF
   ·rfl
   ·rintro i hI
    exact zL
   ·rintro i hJ
    dsimp only at hJ ⊢
    refine kp 21 ?_
    refine zQ ?_
    refine o1 ?_
    dsimp only [FC.st]
    refine cc fun hlt => ?_
    dsimp only at hlt
    refine i3 ?_
    refine aa rfl (cp rfl rfl rfl) ?_
    refine i4 ?_
    dsimp only [St.put]
    show j3 _ _ _ _ _ _ _
    refine o4 ok rfl ⟨rfl, rfl, zK, zN, zS, zK⟩ ?_
    refine oz fun K3 hK3 => ?_
    refine td rfl (fun hc => ?_) (fun hc => ?_)
    ·replace hc := of_decide_eq_true hc
     have hi : i < (dv p (decide (k = 1))).length := by omega
     obtain ⟨hL, hN2⟩ := ukr hk hi
     refine ta ?_
     refine hK3 _ _ ?_
     refine oz fun K4 hK4 => ?_
     refine qt ?_
     refine kp 21 ?_
     refine zQ ?_
     refine o1 ?_
     dsimp only [FC.st]
     refine cc fun hlt => ?_
     dsimp only at hlt
     refine i3 ?_
     refine aa rfl (fb rfl (by constructor)) ?_
     refine aa rfl (fp rfl (by constructor)) ?_
     refine i4 ?_
     dsimp only [St.put]
     show j3 _ _ _ _ _ _ _
     refine vt ?_
     refine i3 ?_
     try dsimp only [St.put]
     first | refine ck rfl (cm rfl rfl) ?_ | refine ck rfl (e8 rfl rfl (Enc.len _)) ?_ | refine ck rfl (e8 rfl rfl rfl) ?_ | refine ck rfl (fu rfl rfl zG trivial (by first | rfl | assumption)) ?_ | refine ck rfl (i1 rfl rfl zG trivial (by rfl)) ?_ | refine ck rfl (ph rfl rfl zG trivial (by simp)) ?_ | refine ck rfl (kz rfl rfl zG trivial (py (by assumption) rfl)) ?_ | refine ck rfl (kz rfl rfl zG trivial (by assumption)) ?_ | refine ck rfl (qd rfl rfl zG trivial rfl (by assumption) rfl (by decide)) ?_ | refine ck rfl (mq rfl rfl zG (by rfl)) ?_
     try dsimp only [St.put]
     first | refine ck rfl (cm rfl rfl) ?_ | refine ck rfl (e8 rfl rfl (Enc.len _)) ?_ | refine ck rfl (e8 rfl rfl rfl) ?_ | refine ck rfl (fu rfl rfl zG trivial (by first | rfl | assumption)) ?_ | refine ck rfl (i1 rfl rfl zG trivial (by rfl)) ?_ | refine ck rfl (ph rfl rfl zG trivial (by simp)) ?_ | refine ck rfl (kz rfl rfl zG trivial (py (by assumption) rfl)) ?_ | refine ck rfl (kz rfl rfl zG trivial (by assumption)) ?_ | refine ck rfl (qd rfl rfl zG trivial rfl (by assumption) rfl (by decide)) ?_ | refine ck rfl (mq rfl rfl zG (by rfl)) ?_
     refine aa rfl (fb rfl (by constructor)) ?_
     try dsimp only [St.put]
     refine af rfl (bc rfl rfl rfl (ubm p (decide (k = 1)) i h hi) ?_)
     refine aa rfl (fb rfl (by constructor)) ?_
     refine aa rfl (ya rfl rfl rfl) ?_
     refine aa rfl (ya rfl rfl rfl) ?_
     refine aa rfl (fp rfl (by constructor)) ?_
     refine aa rfl (fp rfl (by constructor)) ?_
     refine i4 ?_
     dsimp only [St.put]
     show j3 _ _ _ _ _ _ _
     refine o4 ok rfl ⟨rfl, rfl, zK, zN, zS, zK⟩ ?_
     refine oz fun K5 hK5 => ?_
     refine udk ?_
     refine px rfl (fb rfl (by constructor)) ?_
     refine px rfl (fb rfl (by constructor)) ?_
     try dsimp only [St.put]
     refine udn ok (by rw [hN]; exact hN2) rfl rfl rfl rfl (by rw [hcl]; show _ = [C.v (.int .i64 (c4 p (sdN p k + i)))]; rw [hL]; rfl) ?_
     refine px rfl (d7 rfl rfl) ?_
     refine udo ?_
     dsimp only [St.put]
     refine hK5 _ _ ?_
     refine td rfl (fun h => by cases h) (fun _ => ?_)
     refine ta ?_
     refine hK4 _ _ ?_
     refine kp 21 ?_
     refine zQ ?_
     refine yr ok rfl ?_
     dsimp only [FC.st]
     refine cc fun hlt => ?_
     dsimp only at hlt
     refine i3 ?_
     first | refine aa rfl (bz rfl rfl rfl (by omega)) ?_ | refine aa rfl (sn rfl rfl rfl) ?_
     refine aa rfl (fb rfl (by constructor)) ?_
     refine i4 ?_
     dsimp only [St.put]
     refine ⟨⟨rfl, rfl, zK, zN, zS, zK⟩, ?_⟩
     exact ⟨i + 1, by omega, by omega, rfl, ⟨⟨rfl, rfl⟩, zF, zB, zN, zX⟩⟩
    ·replace hc := of_decide_eq_false hc
     obtain rfl : i = (dv p (decide (k = 1))).length := by omega
     refine yv ?_
     refine hK2 _ _ ?_
     refine kp 10 ?_
     refine zQ ?_
     refine yr ok rfl ?_
     dsimp only [FC.st]
     refine cc fun hlt => ?_
     dsimp only at hlt
     refine i3 ?_
     first | refine aa rfl (bz rfl rfl rfl (by omega)) ?_ | refine aa rfl (sn rfl rfl rfl) ?_
     refine aa rfl (fb rfl (by constructor)) ?_
     refine i4 ?_
     dsimp only [St.put]
     refine ⟨⟨rfl, rfl, zK, zN, zS, zK⟩, ?_⟩
     exact ⟨k + 1, by omega, by omega, (xg hk).symm, ⟨⟨rfl, rfl⟩, zF, zB, zN, zX⟩⟩
  ·replace hc := of_decide_eq_false hc
   obtain rfl : k = 2 := by omega
   refine yv ?_
   exact ⟨.inl rfl, rfl⟩
end Go.Proofs.YtbbdginipiljdaaGreatDoor
namespace Go.AB
open Go Go.RowKit
open Go.AB.Enc (cells)
open Go.PB (ba ai PlaceD bh bj bi bw aw ah cw br dg dl)
theorem na {α : Type} (d v : α) : atE 0 d v = v := rfl
theorem li {α : Type} {e : Int} (h : e ≠ 0) (d v : α) : atE e d v = d := by unfold atE; rw [decide_eq_false h]; rfl
theorem uc2 {p : ah} {e : Int} (h : e ≠ 0) : fo p e = e := by unfold fo; rw [decide_eq_false h]; rfl
theorem qp (p : ah) : fo p 0 = bif i6 p then 0 else 8 := rfl
end Go.AB
namespace Go.Proofs.YtbbdginipiljdaaGreatDoor
set_option maxRecDepth 10000
open Go.RowKit Go.AB
open Go.AB.Enc (cells)
open Go.PB (ba ai PlaceD bh bj bi bw aw ah cw br dg dl)
end Go.Proofs.YtbbdginipiljdaaGreatDoor
namespace Go.AB
open Go Go.RowKit
open Go.AB.Enc (cells)
open Go.PB (ba ai PlaceD bh bj bi bw aw ah cw br dg dl)
instance : FlatV br := ⟨fun x => [.int .i64 x.lo, .int .i64 x.hi], fun _ => rfl⟩
def ko (x : aw) : Bool := decide (200 < x.found.length) || decide (200 < x.well.length)
def n2 (p : ah) : Bool := m5 p.text || decide (6 < p.firsts.length) || decide (6 < p.seconds.length) || decide (12 < p.pages.length) || p.pages.any ko
theorem ulj {p : ah} {n : Int} {j : Nat} {x : aw} (h0 : eo p n = 0) (hpo : l5 p n = x) (hn : n = (j : Int)) (hk : (dj p.text x).length ≠ 0) : m4 p n = 0 ∧ n1 p n = yo x (dj p.text x).length := by
 have hE : m4 p n = 0 := by unfold m4; rw [h0, hpo, decide_eq_false hk]; rfl
 exact ⟨hE, by unfold n1; rw [hE, hpo]; rfl⟩
theorem uf2 {p : ah} (h : eg p) (j : Nat) : 0 ≤ ge p j ∧ ge p j ≤ 600 := by
 have hq := nd h.text
 unfold ge kf
 cases hx : p.pages[j]? with
 | none => exact ⟨Int.le_refl _, by show (0 : Int) ≤ 600; omega⟩
 | some x =>
  have := rm p.text x
  show (0 : Int) ≤ (dm p.text x : Int) ∧ (dm p.text x : Int) ≤ 600
  omega
theorem ugo (p : ah) (j : Nat) : 0 ≤ cy p j := by
 unfold cy kf
 cases hx : p.pages[j]? with
 | none => exact Int.le_refl _
 | some x => show (0 : Int) ≤ ((cr p.text x).length : Int); omega
end Go.AB
namespace Go.Proofs.YtbbdginipiljdaaGreatDoor
set_option maxRecDepth 10000
open Go.RowKit Go.AB
open Go.AB.Enc (cells)
open Go.PB (ba ai PlaceD bh bj bi bw aw ah cw br dg dl)
theorem ugi : Tryz.prog.underlying 32 = some (.struct (Tryz.prog.fieldsOf 32)) := by kernel_rfl
theorem uhn : Tryz.prog.stoodInHeld 32 = false := by kernel_rfl
instance : EqT Tryz.prog 32 br where
 guard op w x y xs ys := run_eqGuard_agg w op _ x y xs ys (by kernel_rfl)
 same w x y := by
  obtain ⟨a, b⟩ := x
  obtain ⟨a', b'⟩ := y
  simp only [FlatV.vals]
  rw [run_equalIn_agg _ _ _ _ _ ugi uhn]
  by_cases h1 : a = a' <;> by_cases h2 : b = b' <;> simp [go_sem, h1, h2]
theorem uio (p : ah) : Pure Tryz.prog 9 [val p] (.v (.bool (n2 p))) := by
 refine c6 Tryz.func9 rfl (fun m => .v) fun G nx => ?_
 simp only [Tryz.ntmps9, List.length_cons, List.length_nil, Nat.reduceAdd, Nat.reduceSub]
 refine cc fun hlt => ?_
 dsimp only at hlt
 refine yS fun _ K1 => ?_
 refine yR ?_
 try dsimp only [St.put]
 refine yB rfl rfl rfl ?_
 refine yA rfl rfl ?_
 refine yN ?_
 dsimp only [St.put]
 refine K1 _ ?_
 refine yS fun _ K2 => ?_
 refine ct 4 ?_
 refine zQ ?_
 refine kr (X := Bool) (fun d => (m5 p.text || decide (6 < p.firsts.length) || decide (6 < p.seconds.length) || decide (12 < p.pages.length)) = d) (fun d => [(24, .v (.bool d))]) (fun d G' => G') rfl ?_ (fun _ _ _ _ h => .inl h) ?_ ?_
 ·rintro d hI
  exact zL
 ·refine yR ?_
  refine yF rfl rfl rfl rfl ?_
  try dsimp only [St.put]
  refine ck rfl (c := i9 p.text) (j0 (cs := cells p) rfl rfl (show 1 ≤ 4 by decide)) ?_
  try dsimp only [St.put]
  refine af rfl (bc rfl rfl rfl (uoa p.text) ?_)
  refine yM rfl rfl ?_
  refine ff (fun hs => ?_) (fun hs => ?_)
  ·have h1 : m5 p.text = true := hs
   refine yK rfl ?_
   refine yK rfl ?_
   refine yK rfl ?_
   refine yK rfl ?_
   refine aa rfl (ci rfl rfl (by constructor)) ?_
   refine yM rfl rfl ?_
   refine yK rfl ?_
   refine yK rfl ?_
   refine yK rfl ?_
   refine yK rfl ?_
   refine aa rfl (ci rfl rfl (by constructor)) ?_
   refine yM rfl rfl ?_
   refine yK rfl ?_
   refine yK rfl ?_
   refine yK rfl ?_
   refine yK rfl ?_
   refine aa rfl (ci rfl rfl (by constructor)) ?_
   refine yN ?_
   dsimp only [St.put]
   refine ⟨_, ?_, ⟨⟨rfl, rfl⟩, zF, zB, zN, zX⟩⟩
   first
   | (simp [h1]; done)
   | (simp [h1, h2]; done)
   | (simp [h1, h2, h3]; done)
   | (simp [h1, h2, h3]; omega)
  have h1 : m5 p.text = false := hs
  refine yF rfl rfl rfl rfl ?_
  refine yL rfl rfl rfl ?_
  refine aa rfl (bp rfl rfl (List.length_map _)) ?_
  refine aa rfl (il rfl rfl rfl) ?_
  refine aa rfl (c5 rfl rfl (by constructor)) ?_
  refine yM rfl rfl ?_
  refine ff (fun hs => ?_) (fun hs => ?_)
  ·have h2 : 6 < p.firsts.length := by have := of_decide_eq_true hs; omega
   refine yK rfl ?_
   refine yK rfl ?_
   refine yK rfl ?_
   refine yK rfl ?_
   refine aa rfl (ci rfl rfl (by constructor)) ?_
   refine yM rfl rfl ?_
   refine yK rfl ?_
   refine yK rfl ?_
   refine yK rfl ?_
   refine yK rfl ?_
   refine aa rfl (ci rfl rfl (by constructor)) ?_
   refine yN ?_
   dsimp only [St.put]
   refine ⟨_, ?_, ⟨⟨rfl, rfl⟩, zF, zB, zN, zX⟩⟩
   first
   | (simp [h1]; done)
   | (simp [h1, h2]; done)
   | (simp [h1, h2, h3]; done)
   | (simp [h1, h2, h3]; omega)
  have h2 : ¬ 6 < p.firsts.length := by have := of_decide_eq_false hs; omega
  refine yF rfl rfl rfl rfl ?_
  refine yL rfl rfl rfl ?_
  refine aa rfl (bp rfl rfl (List.length_map _)) ?_
  refine aa rfl (il rfl rfl rfl) ?_
  refine aa rfl (c5 rfl rfl (by constructor)) ?_
  refine yM rfl rfl ?_
  refine ff (fun hs => ?_) (fun hs => ?_)
  ·have h3 : 6 < p.seconds.length := by have := of_decide_eq_true hs; omega
   refine yK rfl ?_
   refine yK rfl ?_
   refine yK rfl ?_
   refine yK rfl ?_
   refine aa rfl (ci rfl rfl (by constructor)) ?_
   refine yN ?_
   dsimp only [St.put]
   refine ⟨_, ?_, ⟨⟨rfl, rfl⟩, zF, zB, zN, zX⟩⟩
   first
   | (simp [h1]; done)
   | (simp [h1, h2]; done)
   | (simp [h1, h2, h3]; done)
   | (simp [h1, h2, h3]; omega)
  have h3 : ¬ 6 < p.seconds.length := by have := of_decide_eq_false hs; omega
  refine yF rfl rfl rfl rfl ?_
  refine yL rfl rfl rfl ?_
  refine aa rfl (bp rfl rfl (List.length_map _)) ?_
  refine aa rfl (il rfl rfl rfl) ?_
  refine aa rfl (c5 rfl rfl (by constructor)) ?_
  refine yN ?_
  dsimp only [St.put]
  refine ⟨_, ?_, ⟨⟨rfl, rfl⟩, zF, zB, zN, zX⟩⟩
  first
  | (simp [h1]; done)
  | (simp [h1, h2]; done)
  | (simp [h1, h2, h3]; done)
  | (simp [h1, h2, h3]; omega)
 rintro d hst
 dsimp only at hst ⊢
 refine av rfl (fun hc => ?_) (fun hc => ?_)
 ·rw [hc] at hst
  refine yS fun _ K4 => ?_
  refine yR ?_
  refine yA rfl rfl ?_
  refine yN ?_
  dsimp only [St.put]
  refine K4 _ ?_
  refine ax ?_
  refine bf rfl (by constructor) zN zS ?_
  exact vb (by unfold n2; rw [hst]; rfl)
 rw [hc] at hst
 have hpl : ¬ 12 < p.pages.length := fun h => by rw [decide_eq_true h, Bool.or_true] at hst; cases hst
 refine ay ?_
 refine K2 _ ?_
 refine yS fun _ K5 => ?_
 refine yS fun _ K6 => ?_
 refine yR ?_
 refine yA rfl rfl ?_
 refine yN ?_
 dsimp only [St.put]
 refine K6 _ ?_
 refine bg ?_
 refine ct 4 ?_
 refine zQ ?_
 refine dd (G) zX ?_
 dsimp only
 refine dc (X := Nat) (fun i => i ≤ p.pages.length ∧ ∀ x ∈ p.pages.take i, ko x = false) (fun i => p.pages.length - i) (fun i => [(3, .v (.int .i64 (i : Int)))]) (fun i G' => G') 0 rfl ?_ ?_ (fun _ _ h => h) ?_ ?_ ?_
 ·exact ⟨Nat.zero_le _, by simp⟩
 ·exact zF
 ·rintro i hI
  exact zL
 ·exact fun _ _ _ _ h => .inl h
 rintro i hI
 dsimp only at hI ⊢
 refine yS fun _ K7 => ?_
 refine yS fun _ K8 => ?_
 refine yR ?_
 refine yM rfl rfl ?_
 refine yF rfl rfl rfl rfl ?_
 refine yL rfl rfl rfl ?_
 refine aa rfl (bp rfl rfl (List.length_map _)) ?_
 refine aa rfl (cp rfl rfl rfl) ?_
 refine yN ?_
 dsimp only [St.put]
 refine K8 _ ?_
 refine av rfl (fun hc => ?_) (fun hc => ?_)
 ·replace hc := of_decide_eq_true hc
  obtain ⟨x, hx⟩ : ∃ x, p.pages[i]? = some x := dp (by omega)
  refine ay ?_
  refine K7 _ ?_
  refine yS fun _ K9 => ?_
  refine bg ?_
  refine yS fun _ K10 => ?_
  refine yR ?_
  refine yF rfl rfl rfl rfl ?_
  refine yL rfl rfl rfl ?_
  refine yM rfl rfl ?_
  refine aa rfl (bx rfl rfl rfl rfl (bv (by assumption)) (Enc.len _)) ?_
  refine yF rfl rfl rfl rfl ?_
  refine yL rfl rfl rfl ?_
  refine aa rfl (bp rfl rfl (List.length_map _)) ?_
  refine aa rfl (il rfl rfl rfl) ?_
  refine yM rfl rfl ?_
  refine ff (fun hs => ?_) (fun hs => ?_)
  ·have g1 : 200 < x.found.length := by have := of_decide_eq_true hs; omega
   refine yK rfl ?_
   refine yK rfl ?_
   refine yK rfl ?_
   refine yK rfl ?_
   refine yK rfl ?_
   refine yK rfl ?_
   refine yK rfl ?_
   refine yK rfl ?_
   refine aa rfl (ci rfl rfl (by constructor)) ?_
   refine yN ?_
   dsimp only [St.put]
   refine K10 _ ?_
   refine av rfl (fun _ => ?_) (fun h => by cases h)
   have hgx : ko x = true := by
    first
    | (simp [ko, g1]; done)
    | (have g2 : 200 < x.well.length := by (have := of_decide_eq_true hc; omega)
       simp [ko, g2])
   refine yS fun _ K11 => ?_
   refine yR ?_
   refine yA rfl rfl ?_
   refine yN ?_
   dsimp only [St.put]
   refine K11 _ ?_
   refine ax ?_
   refine bf rfl (by constructor) zN zS ?_
   exact vb (by
    have : p.pages.any ko = true := List.any_eq_true.2 ⟨x, gd hx, hgx⟩
    unfold n2; rw [this, Bool.or_true])
  have g1 : ¬ 200 < x.found.length := by have := of_decide_eq_false hs; omega
  refine yF rfl rfl rfl rfl ?_
  refine yL rfl rfl rfl ?_
  refine yM rfl rfl ?_
  refine aa rfl (bx rfl rfl rfl rfl (bv (by assumption)) (Enc.len _)) ?_
  refine yF rfl rfl rfl rfl ?_
  refine yL rfl rfl rfl ?_
  refine aa rfl (bp rfl rfl (List.length_map _)) ?_
  refine aa rfl (il rfl rfl rfl) ?_
  refine aa rfl (c5 rfl rfl (by constructor)) ?_
  refine yN ?_
  dsimp only [St.put]
  refine K10 _ ?_
  refine av rfl (fun hc => ?_) (fun hc => ?_)
  ·have hgx : ko x = true := by
    first
    | (simp [ko, g1]; done)
    | (have g2 : 200 < x.well.length := by (have := of_decide_eq_true hc; omega)
       simp [ko, g2])
   refine yS fun _ K12 => ?_
   refine yR ?_
   refine yA rfl rfl ?_
   refine yN ?_
   dsimp only [St.put]
   refine K12 _ ?_
   refine ax ?_
   refine bf rfl (by constructor) zN zS ?_
   exact vb (by
    have : p.pages.any ko = true := List.any_eq_true.2 ⟨x, gd hx, hgx⟩
    unfold n2; rw [this, Bool.or_true])
  have hgx : ko x = false := by
   have g2 : ¬ 200 < x.well.length := by (have := of_decide_eq_false hc; omega)
   simp [ko, g1, g2]
  refine ay ?_
  refine K9 _ ?_
  refine yR ?_
  refine yM rfl rfl ?_
  refine aa rfl (bz rfl rfl rfl (by omega)) ?_
  refine yA rfl rfl ?_
  refine yN ?_
  dsimp only [St.put]
  exact ⟨i + 1, by omega, ⟨by omega, ucn (p := fun x : aw => ko x = false) hx hgx hI.2⟩, ⟨⟨rfl, rfl⟩, zF, zB, zN, zX⟩⟩
 replace hc := of_decide_eq_false hc
 have hall := hI.2
 rw [f8 (show p.pages.length ≤ i by omega)] at hall
 refine c7 ?_
 refine K5 _ ?_
 refine yS fun _ K13 => ?_
 refine yR ?_
 refine yA rfl rfl ?_
 refine yN ?_
 dsimp only [St.put]
 refine K13 _ ?_
 refine ax ?_
 refine bf rfl (by constructor) zN zS ?_
 exact vb (by
  have : p.pages.any ko = false := List.any_eq_false.2 fun x hx => by rw [hall x hx]; simp
  unfold n2; rw [hst, this]; rfl)
end Go.Proofs.YtbbdginipiljdaaGreatDoor
