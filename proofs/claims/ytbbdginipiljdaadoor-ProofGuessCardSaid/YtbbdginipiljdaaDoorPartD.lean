/-
  What the walks through the program rest on: values, states, steps, calls (RcAdd, RiWithout, AbFact, RdOpen, AbFW, RfLefts, QnRef, QrRef, ReAsk, RjRests, QoRef, RkTotal, RgSets, QpRef, QqRef).
-/
import Derived.Test.YtbbdginipiljdaaDoorPartC
import Derived.Test.YtbbdginipiljdaaDoorPartB
import Derived.Test.YtbbdginipiljdaaDoorPartA
namespace Go.AB
open Go Go.RowKit
open Go.AB.Enc (cells)
open Go.PB (av aj PlaceD az bd bc bi am ah cc bg ct cw)
/-- who is found, as a map -/
def f4 (f : PlaceD → Bool) : PlaceD → Option C := fun q => bif f q then some (.v (.bool true)) else none
theorem ubk (f : PlaceD → Bool) (q : PlaceD) : (f4 f q).getD (nl (.bool false)) = .v (.bool (f q)) := by
 unfold f4
 cases f q <;> rfl
theorem uix : f4 (fun q => decide (q ∈ ([] : List PlaceD))) = fun _ => none := by funext q; simp [f4]
theorem uiy {F : List PlaceD} {k : Nat} {q : PlaceD} (h : F[k]? = some q) : jp (f4 fun x => decide (x ∈ F.take k)) q (.v (.bool true)) = f4 fun x => decide (x ∈ F.take (k + 1)) := by
 funext x
 unfold jp f4
 have hm : decide (x ∈ F.take (k + 1)) = (decide (x ∈ F.take k) || decide (x = q)) := by
  rw [List.take_add_one, h, Option.toList_some, Bool.eq_iff_iff]; simp
 dsimp only
 by_cases e : x = q
 ·rw [hm, decide_eq_true e, Bool.or_true, if_pos e]; rfl
 rw [hm, decide_eq_false e, Bool.or_false, if_neg e]
theorem ubj {F W : List PlaceD} (hW : W.Nodup) {k : Nat} {q : PlaceD} (h : W[k]? = some q) (hq : q ∈ F) : pf (f4 (fl F (W.take k))) q = f4 (fl F (W.take (k + 1))) := by
 funext x
 unfold pf f4
 rw [ubl hW h x]
 by_cases e : x = q
 ·rw [if_pos e, decide_eq_true e, decide_eq_true hq]; rfl
 rw [if_neg e, decide_eq_false e]; rfl
theorem ubi {F W : List PlaceD} (hW : W.Nodup) {k : Nat} {q : PlaceD} (h : W[k]? = some q) (hq : q ∉ F) : jp (f4 (fl F (W.take k))) q (.v (.bool true)) = f4 (fl F (W.take (k + 1))) := by
 funext x
 unfold jp f4
 rw [ubl hW h x]
 by_cases e : x = q
 ·rw [if_pos e, decide_eq_true e, decide_eq_false hq]; rfl
 rw [if_neg e, decide_eq_false e]; rfl
theorem onceM_ne {f : PlaceD → Bool} {q : PlaceD} : f4 f q ≠ none ↔ f q = true := by
 unfold f4
 cases f q <;> simp
theorem xm {f : PlaceD → Bool} {q : PlaceD} {c : C} (h : f4 f q = some c) : c = .v (.bool true) := by
 unfold f4 at h
 cases hf : f q <;> rw [hf] at h
 ·cases h
 cases h; rfl
theorem ml (f : PlaceD → Bool) (n : Nat) : ∀ x c, f4 f x = some c → C.low n c := fun x c h => by rw [xm h]; exact .v
def sn (ks done : List PlaceD) : Nat := (ks.filter fun y => decide (y ∉ done)).length
theorem ucg {ks done : List PlaceD} {y : PlaceD} (hy : y ∈ ks) (hn : y ∉ done) : sn ks (done ++ [y]) < sn ks done := by
 unfold sn
 induction ks with
 | nil => cases hy
 | cons z ks ih =>
  have hle : (ks.filter fun y' => decide (y' ∉ done ++ [y])).length ≤ (ks.filter fun y' => decide (y' ∉ done)).length := by
   rw [← List.countP_eq_length_filter, ← List.countP_eq_length_filter]
   refine List.countP_mono_left fun a _ ha => ?_
   simp only [decide_eq_true_eq, List.mem_append, not_or] at ha ⊢
   exact ha.1
  by_cases e : z = y
  ·subst e
   rw [List.filter_cons_of_neg (by simp), List.filter_cons_of_pos (by simpa using hn)]
   simp only [List.length_cons]
   omega
  have hy' : y ∈ ks := by
   rcases List.mem_cons.1 hy with h | h
   ·exact absurd h.symm e
   exact h
  have := ih hy'
  by_cases hz : z ∈ done
  ·rw [List.filter_cons_of_neg (by simp [hz]), List.filter_cons_of_neg (by simp [hz])]
   exact this
  rw [List.filter_cons_of_pos (by simp [hz, e]), List.filter_cons_of_pos (by simp [hz])]
  simp only [List.length_cons]
  omega
theorem ud4 {p : ah} {x : am} {q : PlaceD} {k : Nat} {last : Int} (hp : ky p last x) (hB : cj p.text x = []) (hq : x.well[k]? = some q) : q ∉ x.found := fun hf => by
 have : q ∈ cj p.text x := by
  show q ∈ (ez p.text).filter _
  rw [List.mem_filter, Bool.and_eq_true, decide_eq_true_eq, decide_eq_true_eq, allQ_mem]
  exact ⟨(ly hp.found hf).1, hf, List.mem_of_getElem? hq⟩
 rw [hB] at this; cases this
theorem ubf {p : PlaceD → Prop} : Ord3 p k8 := by
 have key : ∀ a b, k8 a b < 0 ↔ ltW (cm a) (cm b) := fun a b => mu (by rfl)
 refine ⟨fun x _ => ?_, fun x y z _ _ _ h k => ?_, fun x y z _ _ _ h k => ?_⟩
 ·rw [key]; exact n8 _
 ·rw [key] at h k ⊢; exact qm h k
 rw [key] at h k ⊢
 intro hxz
 by_cases h1 : ltW (cm y) (cm x)
 ·exact k (qm h1 hxz)
 rw [x6 (a := cm x) (b := cm y) rfl h h1] at hxz; exact k hxz
def PBd9 (q : PlaceD) : Prop := (0 ≤ q.ch ∧ q.ch ≤ 100000) ∧ (0 ≤ q.ln ∧ q.ln ≤ 100000) ∧ 0 ≤ q.wd ∧ q.wd ≤ 100000
theorem PBd9.plain {a : PlaceD} (h : PBd9 a) : Plain (cells a) := fun c hc => by
 obtain ⟨h1, h2, h3⟩ := h
 have hc' : c ∈ [C.v (.int .i64 a.ch), C.v (.int .i64 a.ln), C.v (.int .i64 a.wd)] := hc
 simp only [List.mem_cons, List.not_mem_nil, or_false] at hc'
 rcases hc' with rfl | rfl | rfl
 ·exact ⟨_, rfl, jk (by omega)⟩
 ·exact ⟨_, rfl, jk (by omega)⟩
 exact ⟨_, rfl, jk (by omega)⟩
theorem ua0 {t : aj} (ht : c6 t = true) {q : PlaceD} (h : eu t q = true) : PBd9 q := by
 obtain ⟨l, hw, hw1, hw2⟩ := placeB_true.1 h
 have := t7 ht hw
 exact ⟨by omega, by omega, by omega, by omega⟩
theorem ubg {p : ah} {x : am} {last : Int} (hp : ky p last x) {q : PlaceD} (h : fl x.found x.well q = true) : eu p.text q = true := by
 unfold fl at h
 by_cases h1 : q ∈ x.found
 ·exact (ly hp.found h1).1
 by_cases h2 : q ∈ x.well
 ·exact (ly hp.well h2).1
 simp [h1, h2] at h
theorem ubh {p : ah} {x : am} {last : Int} (hp : ky p last x) (ht : c6 p.text = true) {done : List PlaceD} (h : ∀ q ∈ done, fl x.found x.well q = true) : ∀ q ∈ done, PBd9 q := fun q hq => ua0 ht (ubg hp (h q hq))
theorem umb {p : ah} {x : am} {last : Int} (_ : ky p last x) (ht : c6 p.text = true) {q : PlaceD} (h : q ∈ cj p.text x) : PBd9 q := by
 have : q ∈ (ez p.text).filter _ := h
 exact ua0 ht (allQ_mem.1 (List.mem_filter.1 this).1)
theorem ur {p : ah} {x : am} {last : Int} (hp : ky p last x) {done : List PlaceD} (hn : done.Nodup) (h : ∀ q ∈ done, fl x.found x.well q = true) : done.length ≤ (ez p.text).length :=
 ubq hn fun q hq => allQ_mem.2 (ubg hp (h q hq))
section
variable {P : Program} {o : Oper} {st : St} {K : St → Prop}
/-- A slice that is nil is nil. -/
theorem uli {t t' e : TypeId} [Elt P t e] {x : Operand} {rows : List (List C)} (ho : o.op = .binOp .eql t x (.const (.slice none 0 0)) t') (hx : evC st x = .list rows .nil) (h : K (st.put o.dst (.v (.bool true)))) : EStep P o st K :=
 j5 fun E w a hsim => by
  have hr := hx ▸ hsim.ev x
  obtain ⟨ad, cap, _, _, hv, h1, _, _, _, _, _, h7, z1, _⟩ := R.list_inv hr
  obtain ⟨rfl, rfl⟩ := z1 rfl
  have q1 := Elt.spec (P := P) (t := t) (e := e)
  refine ⟨.bool true, w, E, st.G, st.nx, .v (.bool true), ?_, Ev.refl E w, .v rfl, hsim.g, h⟩
  have hq := run_equal_slice_nil (P := P) w t e none rows.length 0 q1
  have he2 : a.eval (.const (.slice none 0 0)) = .slice none 0 0 := rfl
  simp [execOp, ho, hv, he2, eqGuard, binOp, hq]
/-- .. one in which something is, is not. -/
theorem udq {t t' e : TypeId} [Elt P t e] {x : Operand} {rows : List (List C)} {tok : Tok} (hne : rows ≠ []) (ho : o.op = .binOp .eql t x (.const (.slice none 0 0)) t') (hx : evC st x = .list rows tok) (h : K (st.put o.dst (.v (.bool false)))) : EStep P o st K :=
 udr ho hx fun b hb => by rw [hb hne]; exact h
end
end Go.AB
namespace Go.Proofs.YtbbdginipiljdaaDoor
set_option maxRecDepth 10000
open Go Go.RowKit Go.AB
open Go.AB.Enc (cells)
open Go.PB (av aj PlaceD az bd bc bi am ah cc bg ct cw)
instance : Ty Tryd.prog (srt_Place_ren.t 24) true (Enc.n PlaceD) := inferInstanceAs (Ty Tryd.prog 54 true 3)
theorem ulv : Pure Tryd.prog 97 [.list [] .nil] (.list [] .nil) := by
 refine co Tryd.func97 rfl (fun m => (.list (fun r hr => by cases hr) (fun k hk => by cases hk))) fun G nx => ?_
 simp only [Tryd.ntmps97, List.length_cons, List.length_nil, Nat.reduceAdd, Nat.reduceSub]
 refine bl fun hlt => ?_
 dsimp only at hlt
 refine yS fun _ K1 => ?_
 refine yR ?_
 refine yA rfl rfl ?_
 refine yN ?_
 dsimp only [St.put]
 refine K1 _ ?_
 refine yS fun _ K2 => ?_
 refine yS fun _ K3 => ?_
 refine yR ?_
 refine yM rfl rfl ?_
 refine ae rfl (uli rfl rfl ?_)
 refine yN ?_
 dsimp only [St.put]
 refine K3 _ ?_
 refine ar rfl (fun hc => ?_) (fun hc => ?_)
 ·try replace hc := of_decide_eq_true hc
  refine yS fun _ K4 => ?_
  refine yR ?_
  refine yA rfl rfl ?_
  refine yN ?_
  dsimp only [St.put]
  refine K4 _ ?_
  refine aq ?_
  refine ba rfl (by constructor) zN zS ?_
  rfl
 try replace hc := of_decide_eq_false hc
 refine ax ?_
 refine K2 _ ?_
 refine yS fun _ K5 => ?_
 refine yR ?_
 try dsimp only [St.put]
 refine ae rfl (vq rfl ?_)
 refine yM rfl rfl ?_
 try dsimp only [St.put]
 refine ae rfl (yu rfl rfl (.inl rfl) rfl (show 1 ≤ 3 by decide) (fun r hr => by cases hr) (by simp) (by simp) ?_)
 refine yA rfl rfl ?_
 refine yN ?_
 dsimp only [St.put]
 refine K5 _ ?_
 refine aq ?_
 exact absurd hc (by decide)
theorem ulu (l : List PlaceD) (hne : l ≠ []) (hl : l.length ≤ 1000) (G : Nat → Option GObj) (nx : Nat) : PC Tryd.prog 97 [lst l] G nx fun r G' nx' => r = .own nx 0 l.length ∧ G' = ak G nx (.arr 0 0 54 3 l.length (cy l)) ∧ nx' = nx + 1 := by
 refine ie (ak G nx (.arr 0 0 54 3 l.length (cy l))) (nx + 1) Tryd.func97 rfl (.own (Nat.lt_succ_self _)) zN (fun hlt => (by (repeat' (refine ki ?_ (by (try dsimp only); omega) ?_)); all_goals (first | exact kj zS | (repeat' (first | exact trivial | refine ⟨?_, ?_⟩ | exact .v | exact .any | refine .elem ?_ | exact bj _ _ | exact et _ _ | exact dv _ _ | exact ey _ (by (try dsimp only); omega) | exact .box (by (try dsimp only); omega) | exact el | exact cv | exact d8 _ | refine fb ?_ ?_ | exact .arr (by (try dsimp only); omega) | exact .own (by (try dsimp only); omega) | exact .map (by (try dsimp only); omega) | exact d8 _ | refine bv ?_ ?_ | exact bj _ _))))) ?_
 simp only [Tryd.ntmps97, List.length_cons, List.length_nil, Nat.reduceAdd, Nat.reduceSub]
 refine bl fun hlt => ?_
 dsimp only at hlt
 refine yS fun _ K1 => ?_
 refine yR ?_
 refine yA rfl rfl ?_
 refine yN ?_
 dsimp only [St.put]
 refine K1 _ ?_
 refine yS fun _ K2 => ?_
 refine yS fun _ K3 => ?_
 refine yR ?_
 refine yM rfl rfl ?_
 refine ae rfl (udq (fun e => hne (by simpa using e)) rfl rfl ?_)
 refine yN ?_
 dsimp only [St.put]
 refine K3 _ ?_
 refine ar rfl (fun hc => ?_) (fun hc => ?_)
 ·try replace hc := of_decide_eq_true hc
  refine yS fun _ K4 => ?_
  refine yR ?_
  refine yA rfl rfl ?_
  refine yN ?_
  dsimp only [St.put]
  refine K4 _ ?_
  refine aq ?_
  exact absurd hc (by decide)
 try replace hc := of_decide_eq_false hc
 refine ax ?_
 refine K2 _ ?_
 refine yS fun _ K5 => ?_
 refine yR ?_
 try dsimp only [St.put]
 refine ae rfl (vq rfl ?_)
 refine yM rfl rfl ?_
 try dsimp only [St.put]
 refine ae rfl (udt l rfl rfl (.inl rfl) rfl rfl hne (by decide) (by omega) (by omega) ?_)
 refine yA rfl rfl ?_
 refine yN ?_
 dsimp only [St.put]
 refine K5 _ ?_
 refine aq ?_
 refine ba rfl (by constructor) zN zS ?_
 rfl
set_option maxHeartbeats 4000000 in
theorem unb (p : ah) (last : Int) (x : am) (ws : List Int) (al bo : List (List PlaceD)) (nB a1 a2 a3 V : Nat) (ht : c6 p.text = true) (hp : ky p last x) (hw : ws.length ≤ 100) (ha : al.length ≤ 100) (hb : bo.length ≤ 100) (G : Nat → Option GObj) (nx : Nat) (hN : nB < nx) (h1 : a1 < nx) (h2 : a2 < nx) (h3 : a3 < nx) (d1 : nB ≠ a1) (d2 : nB ≠ a2) (d3 : nB ≠ a3) (d4 : a1 ≠ a2) (d5 : a1 ≠ a3) (d6 : a2 ≠ a3)
  (hGB : G nB = some (((.box (V) [lst p.text, lst p.firsts, lst p.seconds, lst p.pages, .list ((ws).map cells) (.tip a1), .list ((al).map cells) (.tip a2), .list ((bo).map cells) (.tip a3)])))) (hG1 : G a1 = some (.tip ws.length 3 1)) (hG2 : G a2 = some (.tip al.length 36 1)) (hG3 : G a3 = some (.tip bo.length 36 1)) :
  PC Tryd.prog 76 [.box nB 0 0, val x, lst (lk p.text p.text.length)] G nx fun r' G' nx' => r' = .tup [] ∧ G' = ak (ak (ak (ak G nB (((.box ((V + 1 + 1 + 1)) [lst p.text, lst p.firsts, lst p.seconds, lst p.pages, .list (((ws ++ [(er p.text x : Int)])).map cells) (.tip a1), .list (((al ++ [dn p.text x])).map cells) (.tip a2), .list (((bo ++ [cj p.text x])).map cells) (.tip a3)])))) a1 (.tip (ws ++ [(er p.text x : Int)]).length 3 1)) a2 (.tip (al ++ [dn p.text x]).length 36 1)) a3 (.tip (bo ++ [cj p.text x]).length 36 1) ∧ nx' = nx := by
 refine ie (ak (ak (ak (ak G nB (((.box ((V + 1 + 1 + 1)) [lst p.text, lst p.firsts, lst p.seconds, lst p.pages, .list (((ws ++ [(er p.text x : Int)])).map cells) (.tip a1), .list (((al ++ [dn p.text x])).map cells) (.tip a2), .list (((bo ++ [cj p.text x])).map cells) (.tip a3)])))) a1 (.tip (ws ++ [(er p.text x : Int)]).length 3 1)) a2 (.tip (al ++ [dn p.text x]).length 36 1)) a3 (.tip (bo ++ [cj p.text x]).length 36 1)) (nx) Tryd.func76 rfl (.tup cv) zN (fun hlt => zH) ?_
 simp only [Tryd.ntmps76, List.length_cons, List.length_nil, Nat.reduceAdd, Nat.reduceSub]
 refine bl fun hlt => ?_
 dsimp only at hlt
 obtain ⟨hl1, hl2, hl3⟩ := kz ht
 have hal := ox ht
 have hnd1 := w4 (vo hp.found)
 have hnd2 := w4 (vo hp.well)
 have hfl := ms hp.found
 have hwl := ms hp.well
 have hbl := yy p.text x
 have hgl := te p.text x
 have hwx := we p.text x
 have hwt : ∀ (f : PlaceD → Bool) (l : List PlaceD), (l.filter f).length ≤ l.length := fun f l => List.length_filter_le f l
 have hstl := zx p.text p.text.length
 have hmw : x.well.take x.well.length = x.well := List.take_length
 refine yS fun _ K1 => ?_
 refine yR ?_
 try dsimp only [St.put]
 refine yB rfl rfl rfl ?_
 refine yN ?_
 dsimp only [St.put]
 refine K1 _ ?_
 refine yS fun _ K2 => ?_
 refine yR ?_
 refine yA rfl rfl ?_
 refine yN ?_
 dsimp only [St.put]
 rw [show (0 : Int) = ((i7 p.text x (ez (p.text.take 0)) : Nat) : Int) from rfl]
 refine K2 _ ?_
 refine yS fun _ K3 => ?_
 refine yS fun _ K4 => ?_
 refine yR ?_
 refine yM rfl rfl ?_
 refine aa rfl (jy rfl rfl) ?_
 refine aa rfl (eb rfl rfl) ?_
 refine aa rfl (eb rfl rfl) ?_
 refine aa rfl (eb rfl rfl) ?_
 try dsimp only [St.put]
 refine bq rfl (fj rfl rfl zG trivial (by first | rfl | assumption)) ?_
 refine aa rfl (bf rfl rfl (List.length_map _)) ?_
 refine yM rfl rfl ?_
 refine yN ?_
 dsimp only [St.put]
 refine K4 _ ?_
 refine bh ?_
 refine ck 27 ?_
 refine zQ ?_
 refine dc (X := Nat) (fun k => k ≤ p.text.length) (fun k => p.text.length - k) (fun k => [(6, .v (.int .i64 ((i7 p.text x (ez (p.text.take k)) : Nat) : Int))), (7, .any), (8, .any), (9, .any), (10, .any), (26, .v (.int .i64 (k : Int)))]) (fun k G' => G') 0 rfl ?_ ?_ (fun _ _ h => h) ?_ ?_ ?_
 ·exact Nat.zero_le _
 ·exact zF
 ·rintro k hI
  exact zL
 ·exact fun _ _ _ _ h => .inl h
 rintro k hI
 dsimp only at hI ⊢
 refine yS fun _ K5 => ?_
 refine yR ?_
 refine aa rfl (ci rfl rfl rfl) ?_
 refine yN ?_
 dsimp only [St.put]
 refine K5 _ ?_
 refine yS fun _ K6 => ?_
 refine ar rfl (fun hc => ?_) (fun hc => ?_)
 ·replace hc := of_decide_eq_true hc
  obtain ⟨c, hcx⟩ : ∃ c, p.text[k]? = some c := dj (by omega)
  have hll := (hl3 c (ga hcx)).2.1
  have hwo := (hl3 c (ga hcx)).2.2
  have hst := zy (t := p.text) (k := p.text.length) (i := k) (by omega)
  have hsb := uc ht k (by omega)
  refine ax ?_
  refine K6 _ ?_
  refine yS fun _ K7 => ?_
  refine bh ?_
  refine yS fun _ K8 => ?_
  refine yR ?_
  refine yM rfl rfl ?_
  refine aa rfl (bu rfl rfl rfl rfl (bp (by assumption)) (Enc.len _)) ?_
  refine yE rfl rfl rfl ?_
  try dsimp only [St.put]
  refine ae rfl (dm rfl ?_)
  refine yA rfl rfl ?_
  try dsimp only [St.put]
  refine ae rfl (cp rfl rfl rfl zG rfl rfl (by rfl) ?_)
  refine yN ?_
  dsimp only [St.put]
  refine K8 _ ?_
  refine fw (i := 8) rfl zG zC ?_
  dsimp only
  refine yS fun _ K9 => ?_
  refine yR ?_
  refine yF rfl rfl rfl rfl ?_
  refine yL rfl rfl rfl ?_
  refine aa rfl (bf rfl rfl (List.length_map _)) ?_
  refine yM rfl rfl ?_
  refine yN ?_
  dsimp only [St.put]
  rw [umv p.text k c.lines]
  refine K9 _ ?_
  refine bh ?_
  refine ck 35 ?_
  refine zQ ?_
  refine dc (X := Nat) (fun n => n ≤ c.lines.length) (fun n => c.lines.length - n) (fun n => [(6, .v (.int .i64 ((i7 p.text x (gy p.text k c.lines n) : Nat) : Int))), (9, .any), (10, .any), (34, .v (.int .i64 (n : Int)))]) (fun n G' => G') 0 rfl ?_ ?_ (fun _ _ h => h) ?_ ?_ ?_
  ·exact Nat.zero_le _
  ·exact zF
  ·rintro n hI
   exact zL
  ·exact fun _ _ _ _ h => .inl h
  rintro n hJ
  dsimp only at hJ ⊢
  refine yS fun _ K10 => ?_
  refine yR ?_
  refine aa rfl (ci rfl rfl rfl) ?_
  refine yN ?_
  dsimp only [St.put]
  refine K10 _ ?_
  refine yS fun _ K11 => ?_
  refine ar rfl (fun hc => ?_) (fun hc => ?_)
  ·replace hc := of_decide_eq_true hc
   obtain ⟨l, hn⟩ : ∃ l, c.lines[n]? = some l := dj (by omega)
   have hlb := hwo l (ga hn)
   have hqb : i7 p.text x (gy p.text k c.lines n) ≤ 600 := by
    have hle := umu ht hcx hn 0
    rw [← umt] at hle
    have := hwt (gh p.text x) (gy p.text k c.lines n)
    unfold i7
    omega
   refine ax ?_
   refine K11 _ ?_
   refine yS fun _ K12 => ?_
   refine bh ?_
   refine yS fun _ K13 => ?_
   refine yR ?_
   refine yM rfl rfl ?_
   refine aa rfl (bu rfl rfl rfl rfl (bp (by assumption)) (Enc.len _)) ?_
   refine yL rfl rfl rfl ?_
   refine yA rfl rfl ?_
   refine yA rfl rfl ?_
   refine yN ?_
   dsimp only [St.put]
   refine K13 _ ?_
   refine yS fun _ K14 => ?_
   refine gn [(0, none), (1, none), (2, none), (3, none), (4, none), (5, none), (6, none), (7, none), (8, none), (9, none), (10, none), (11, none)] (fun i => [11].contains i) (fun i => [10, 11].contains i) (fun i => [0, 2, 4, 5, 6, 8, 9].contains i) [] (by kernel_rfl) (by kernel_rfl) ?_
   refine af rfl rfl rfl rfl (bx rfl rfl rfl) ?_
   try dsimp only [St.put]
   refine aw rfl rfl rfl rfl (bn rfl rfl) ?_
   refine af rfl rfl rfl rfl (bx rfl rfl rfl) ?_
   try dsimp only [St.put]
   refine aw rfl rfl rfl rfl (bn rfl rfl) ?_
   refine xM rfl rfl rfl rfl rfl ?_
   refine xM rfl rfl rfl rfl rfl ?_
   try dsimp only [St.put]
   refine af rfl rfl rfl rfl (bu rfl rfl rfl rfl (bp (by assumption)) (Enc.len _)) ?_
   try dsimp only [St.put]
   refine aw rfl rfl rfl rfl (bn rfl rfl) ?_
   refine xM rfl rfl rfl rfl rfl ?_
   refine af rfl rfl rfl rfl (ca rfl rfl rfl (by omega)) ?_
   refine ji ?_
   try dsimp only [St.put]
   refine j7 rfl rfl rfl (dl rfl rfl rfl (by decide) (by decide) zR (by decide) ⟨zD, ?_⟩)
   try dsimp only [St.put]
   refine ij rfl rfl rfl rfl (ay rfl rfl rfl (mj _ _ [_]) ?_)
   refine jh ?_
   dsimp only [St.put]
   refine K14 _ ?_
   refine ar rfl (fun hc => ?_) (fun hc => ?_)
   ·have hpg : inB ((fa p.text k : Int) + (n : Int)) x.fr x.to = true := by rw [fq] at hc; exact hc
    refine yR ?_
    refine yM rfl rfl ?_
    refine yM rfl rfl ?_
    refine aa rfl (bf rfl rfl (List.length_map _)) ?_
    refine aa rfl (ca rfl rfl rfl (by omega)) ?_
    refine yA rfl rfl ?_
    refine yN ?_
    dsimp only [St.put]
    refine K12 _ ?_
    refine yR ?_
    refine aa rfl (ca rfl rfl rfl (by omega)) ?_
    refine yM rfl rfl ?_
    refine yN ?_
    dsimp only [St.put]
    have e := zl p.text x (k := k) hn
    first
    | (rw [hpg, cond_true] at e
       rw [show ((i7 p.text x (gy p.text k c.lines n) : Nat) : Int) + (l.length : Int) = ((i7 p.text x (gy p.text k c.lines (n + 1)) : Nat) : Int) by rw [e]; rfl]
       exact ⟨n + 1, by omega, by omega, ⟨⟨rfl, rfl⟩, zF, zB, zN, zX⟩⟩)
    | (rw [hpn, cond_false] at e
       rw [show i7 p.text x (gy p.text k c.lines n) = i7 p.text x (gy p.text k c.lines (n + 1)) from e.symm]
       exact ⟨n + 1, by omega, by omega, ⟨⟨rfl, rfl⟩, zF, zB, zN, zX⟩⟩)
   have hpn : inB ((fa p.text k : Int) + (n : Int)) x.fr x.to = false := by rw [fq] at hc; exact hc
   refine ax ?_
   refine K12 _ ?_
   refine yR ?_
   refine aa rfl (ca rfl rfl rfl (by omega)) ?_
   refine yM rfl rfl ?_
   refine yN ?_
   dsimp only [St.put]
   have e := zl p.text x (k := k) hn
   first
   | (rw [hpg, cond_true] at e
      rw [show ((i7 p.text x (gy p.text k c.lines n) : Nat) : Int) + (l.length : Int) = ((i7 p.text x (gy p.text k c.lines (n + 1)) : Nat) : Int) by rw [e]; rfl]
      exact ⟨n + 1, by omega, by omega, ⟨⟨rfl, rfl⟩, zF, zB, zN, zX⟩⟩)
   | (rw [hpn, cond_false] at e
      rw [show i7 p.text x (gy p.text k c.lines n) = i7 p.text x (gy p.text k c.lines (n + 1)) from e.symm]
      exact ⟨n + 1, by omega, by omega, ⟨⟨rfl, rfl⟩, zF, zB, zN, zX⟩⟩)
  replace hc := of_decide_eq_false hc
  refine c5 ?_
  refine K7 _ ?_
  refine yR ?_
  refine aa rfl (ca rfl rfl rfl (by omega)) ?_
  refine yM rfl rfl ?_
  refine yN ?_
  dsimp only [St.put]
  rw [umw (n := n) hcx (by omega)]
  exact ⟨k + 1, by omega, by omega, ⟨⟨rfl, rfl⟩, zF, zB, zN, zX⟩⟩
 replace hc := of_decide_eq_false hc
 obtain rfl : k = p.text.length := by omega
 rw [List.take_length, ufh]
 refine c5 ?_
 refine K3 _ ?_
 refine yS fun _ K15 => ?_
 refine yR ?_
 try dsimp only [St.put]
 refine ae rfl (yp (α := PlaceD) rfl ?_)
 refine yA rfl rfl ?_
 refine yN ?_
 dsimp only [St.put]
 refine K15 _ ?_
 refine yS fun _ K16 => ?_
 refine yS fun _ K17 => ?_
 refine yR ?_
 refine yF rfl rfl rfl rfl ?_
 refine yL rfl rfl rfl ?_
 refine aa rfl (bf rfl rfl (List.length_map _)) ?_
 refine yM rfl rfl ?_
 refine yN ?_
 dsimp only [St.put]
 refine K17 _ ?_
 refine bh ?_
 refine ck 62 ?_
 refine zQ ?_
 refine dd ((ak G nx (gx Tryd.prog 54 (0) ((fun _ => none))))) zX ?_
 dsimp only
 refine dc (X := Nat) (fun k => k ≤ x.found.length) (fun k => x.found.length - k) (fun k => [(13, .any), (61, .v (.int .i64 (k : Int)))]) (fun k G' => (ak G nx (gx Tryd.prog 54 (k) ((f4 fun q => decide (q ∈ x.found.take k)))))) 0 rfl ?_ ?_ ?_ ?_ ?_ ?_
 ·exact Nat.zero_le _
 ·exact zF
 ·rw [show (f4 fun q => decide (q ∈ x.found.take 0)) = fun _ => none from uix]
  exact zX
 ·rintro k hI
  exact (by (try dsimp only); repeat' (first | exact trivial | refine ⟨?_, ?_⟩ | exact .v | exact .any | refine .elem ?_ | exact bj _ _ | exact et _ _ | exact dv _ _ | exact ey _ (by (try dsimp only); omega) | exact .box (by (try dsimp only); omega) | exact el | exact cv | exact gw (ml _ _) | refine fb ?_ ?_ | exact .arr (by (try dsimp only); omega) | exact .own (by (try dsimp only); omega) | exact .map (by (try dsimp only); omega) | exact d8 _ | refine bv ?_ ?_ | exact bj _ _))
 ·rintro k hI
  exact (by (repeat' (refine ki ?_ (by (try dsimp only); omega) ?_)); all_goals (first | exact kj zS | (repeat' (first | exact trivial | refine ⟨?_, ?_⟩ | exact .v | exact .any | refine .elem ?_ | exact bj _ _ | exact et _ _ | exact dv _ _ | exact ey _ (by (try dsimp only); omega) | exact .box (by (try dsimp only); omega) | exact el | exact cv | exact gw (ml _ _) | refine fb ?_ ?_ | exact .arr (by (try dsimp only); omega) | exact .own (by (try dsimp only); omega) | exact .map (by (try dsimp only); omega) | exact d8 _ | refine bv ?_ ?_ | exact bj _ _))))
 rintro k hK
 dsimp only at hK ⊢
 refine yS fun _ K18 => ?_
 refine yR ?_
 refine aa rfl (ci rfl rfl rfl) ?_
 refine yN ?_
 dsimp only [St.put]
 refine K18 _ ?_
 refine yS fun _ K19 => ?_
 refine ar rfl (fun hc => ?_) (fun hc => ?_)
 ·replace hc := of_decide_eq_true hc
  obtain ⟨q, hq⟩ : ∃ q, x.found[k]? = some q := dj (by omega)
  refine ax ?_
  refine K19 _ ?_
  refine yS fun _ K20 => ?_
  refine bh ?_
  refine yS fun _ K21 => ?_
  refine yR ?_
  refine aa rfl (bu rfl rfl rfl rfl (bp (by assumption)) (Enc.len _)) ?_
  refine yE rfl rfl rfl ?_
  try dsimp only [St.put]
  refine ae rfl (dm rfl ?_)
  try dsimp only [St.put]
  refine ae rfl (cp rfl rfl rfl zG rfl rfl (by rfl) ?_)
  refine yN ?_
  dsimp only [St.put]
  refine K21 _ ?_
  refine fw (i := 13) rfl zG zC ?_
  dsimp only
  refine yR ?_
  refine yM rfl rfl ?_
  refine yE rfl rfl rfl ?_
  try dsimp only [St.put]
  refine ae rfl (th (q) rfl rfl rfl zG rfl (uiy hq) ?_)
  refine yN ?_
  dsimp only [St.put]
  refine K20 _ ?_
  refine yR ?_
  refine aa rfl (ca rfl rfl rfl (by omega)) ?_
  refine yM rfl rfl ?_
  refine yN ?_
  dsimp only [St.put]
  exact ⟨k + 1, by omega, by omega, ⟨⟨rfl, rfl⟩, zF, zB, zN, zX⟩⟩
 replace hc := of_decide_eq_false hc
 obtain rfl : k = x.found.length := by omega
 rw [List.take_length, show (fun q => decide (q ∈ x.found)) = fl x.found (x.well.take 0) from funext fun q => (uiz x.found q).symm]
 refine c5 ?_
 refine K16 _ ?_
 refine yS fun _ K22 => ?_
 by_cases hB : cj p.text x = []
 ·refine yR ?_
  refine yA rfl rfl ?_
  refine yN ?_
  dsimp only [St.put]
  refine K22 _ ?_
  refine yS fun _ K23 => ?_
  refine yS fun _ K24 => ?_
  refine yR ?_
  refine yF rfl rfl rfl rfl ?_
  refine yL rfl rfl rfl ?_
  refine aa rfl (bf rfl rfl (List.length_map _)) ?_
  refine yM rfl rfl ?_
  refine yN ?_
  dsimp only [St.put]
  refine K24 _ ?_
  refine bh ?_
  refine ck 72 ?_
  refine zQ ?_
  refine dd ((ak G nx (gx Tryd.prog 54 (x.found.length) ((f4 (fl x.found (x.well.take 0))))))) zX ?_
  dsimp only
  refine dc (X := Nat) (fun k => k ≤ x.well.length) (fun k => x.well.length - k) (fun k => [(16, .any), (71, .v (.int .i64 (k : Int)))]) (fun k G' => (ak G nx (gx Tryd.prog 54 ((x.found.length + k)) ((f4 (fl x.found (x.well.take k))))))) 0 rfl ?_ ?_ ?_ ?_ ?_ ?_
  ·exact Nat.zero_le _
  ·exact zF
  ·exact zX
  ·rintro k hI
   exact (by (try dsimp only); repeat' (first | exact trivial | refine ⟨?_, ?_⟩ | exact .v | exact .any | refine .elem ?_ | exact bj _ _ | exact et _ _ | exact dv _ _ | exact ey _ (by (try dsimp only); omega) | exact .box (by (try dsimp only); omega) | exact el | exact cv | exact gw (ml _ _) | refine fb ?_ ?_ | exact .arr (by (try dsimp only); omega) | exact .own (by (try dsimp only); omega) | exact .map (by (try dsimp only); omega) | exact d8 _ | refine bv ?_ ?_ | exact bj _ _))
  ·rintro k hI
   exact (by (repeat' (refine ki ?_ (by (try dsimp only); omega) ?_)); all_goals (first | exact kj zS | (repeat' (first | exact trivial | refine ⟨?_, ?_⟩ | exact .v | exact .any | refine .elem ?_ | exact bj _ _ | exact et _ _ | exact dv _ _ | exact ey _ (by (try dsimp only); omega) | exact .box (by (try dsimp only); omega) | exact el | exact cv | exact gw (ml _ _) | refine fb ?_ ?_ | exact .arr (by (try dsimp only); omega) | exact .own (by (try dsimp only); omega) | exact .map (by (try dsimp only); omega) | exact d8 _ | refine bv ?_ ?_ | exact bj _ _))))
  rintro k hK
  dsimp only at hK ⊢
  refine yS fun _ K25 => ?_
  refine yR ?_
  refine aa rfl (ci rfl rfl rfl) ?_
  refine yN ?_
  dsimp only [St.put]
  refine K25 _ ?_
  refine yS fun _ K26 => ?_
  refine ar rfl (fun hc => ?_) (fun hc => ?_)
  ·replace hc := of_decide_eq_true hc
   obtain ⟨q, hq⟩ : ∃ q, x.well[k]? = some q := dj (by omega)
   have hbt := ud7 x.found x.well k
   refine ax ?_
   refine K26 _ ?_
   refine yS fun _ K27 => ?_
   refine bh ?_
   refine yS fun _ K28 => ?_
   refine yR ?_
   refine aa rfl (bu rfl rfl rfl rfl (bp (by assumption)) (Enc.len _)) ?_
   refine yE rfl rfl rfl ?_
   try dsimp only [St.put]
   refine ae rfl (dm rfl ?_)
   try dsimp only [St.put]
   refine ae rfl (cp rfl rfl rfl zG rfl rfl (by rfl) ?_)
   refine yN ?_
   dsimp only [St.put]
   refine K28 _ ?_
   refine fw (i := 16) rfl zG zC ?_
   dsimp only
   refine yS fun _ K29 => ?_
   refine yR ?_
   refine yM rfl rfl ?_
   refine yE rfl rfl rfl ?_
   try dsimp only [St.put]
   refine bq rfl (uj q rfl rfl zG trivial rfl (ubk _ _)) ?_
   refine yN ?_
   dsimp only [St.put]
   refine K29 _ ?_
   refine ar rfl (fun hc => ?_) (fun hc => ?_)
   ·have hin : q ∈ x.found := by
     rw [ut hnd2 hq] at hc
     exact of_decide_eq_true hc
    refine yS fun _ K30 => ?_
    refine yR ?_
    refine yM rfl rfl ?_
    refine yE rfl rfl rfl ?_
    try dsimp only [St.put]
    refine ae rfl (dl rfl rfl rfl (by decide) (by decide) zR (by decide) ?_)
    try dsimp only [St.put]
    refine ae rfl (yu rfl rfl (.inr rfl) rfl (show 1 ≤ 3 by decide) (fun r hr => by rw [List.mem_singleton] at hr; subst hr; rfl) (by simp) (by simp) ?_)
    refine yA rfl rfl ?_
    refine yN ?_
    dsimp only [St.put]
    refine K30 _ ?_
    refine yR ?_
    refine yM rfl rfl ?_
    refine yE rfl rfl rfl ?_
    try dsimp only [St.put]
    refine ae rfl (uds q rfl rfl zG rfl (ubj hnd2 hq hin) ?_)
    refine yN ?_
    dsimp only [St.put]
    refine K27 _ ?_
    refine yR ?_
    refine aa rfl (ca rfl rfl rfl (by omega)) ?_
    refine yM rfl rfl ?_
    refine yN ?_
    dsimp only [St.put]
    first
    | exact absurd (show q ∈ x.found from hin) (ud4 hp hB hq)
    | exact ⟨k + 1, by omega, by omega, ⟨⟨rfl, rfl⟩, zF, zB, zN, zX⟩⟩
   have hout : q ∉ x.found := by
    rw [ut hnd2 hq] at hc
    exact of_decide_eq_false hc
   refine yR ?_
   refine yM rfl rfl ?_
   refine yE rfl rfl rfl ?_
   try dsimp only [St.put]
   refine ae rfl (th (q) rfl rfl rfl zG rfl (ubi hnd2 hq hout) ?_)
   refine yN ?_
   dsimp only [St.put]
   refine K27 _ ?_
   refine yR ?_
   refine aa rfl (ca rfl rfl rfl (by omega)) ?_
   refine yM rfl rfl ?_
   refine yN ?_
   dsimp only [St.put]
   first
   | exact absurd (show q ∈ x.found from hin) (ud4 hp hB hq)
   | exact ⟨k + 1, by omega, by omega, ⟨⟨rfl, rfl⟩, zF, zB, zN, zX⟩⟩
  replace hc := of_decide_eq_false hc
  obtain rfl : k = x.well.length := by omega
  refine c5 ?_
  refine K23 _ ?_
  refine yS fun _ K31 => ?_
  refine yR ?_
  refine yM rfl rfl ?_
  try dsimp only [St.put]
  refine ae rfl (ay rfl rfl rfl (ulv) ?_)
  refine yA rfl rfl ?_
  refine yN ?_
  dsimp only [St.put]
  refine K31 _ ?_
  refine uem 17 54 3 rfl (by decide) ?_
  dsimp only
  refine yS fun _ K32 => ?_
  refine yS fun _ K33 => ?_
  refine yR ?_
  refine yM rfl rfl ?_
  try dsimp only [St.put]
  refine ae rfl (udo rfl rfl zG fun r β cl ks hnd hks0 hinj => ?_)
  refine yN ?_
  dsimp only [St.put]
  refine K33 _ ?_
  rw [hmw] at hks0
  rw [hmw]
  refine bh ?_
  refine ck 91 ?_
  refine zQ ?_
  refine dd (ak (ak (ak (ak G nx (nk Tryd.prog 54 (x.found.length + x.well.length) (f4 (fl x.found x.well)) β cl)) (nx + 1) (.arr 0 0 54 3 0 [])) (nx + 1 + 1) (.raw 0 (.mapIter (some r) cl (iy β ([] : List PlaceD)) cl))) (nx + 1 + 1 + 1) (.fact (.map (some r)) (.map nx))) zX ?_
  dsimp only
  refine dc (X := List PlaceD × Nat × Nat × Nat) (fun y => (∀ z ∈ y.1, z ∈ ks) ∧ y.1.Nodup) (fun y => sn ks y.1) (fun y => [(17, .own (nx + 1) y.2.2.1 (([] : List PlaceD) ++ y.1).length), (18, .any)]) (fun y G' => (ak (ak (ak (ak G nx (nk Tryd.prog 54 ((x.found.length + x.well.length)) (f4 ((fl x.found x.well))) β cl)) ((nx + 1)) (.arr y.2.2.1 y.2.2.2 54 3 ((([] : List PlaceD) ++ y.1)).length (cy ((([] : List PlaceD) ++ y.1))))) ((nx + 1 + 1)) (.raw y.2.1 (.mapIter (some r) cl (iy β y.1) cl))) ((nx + 1 + 1 + 1)) (.fact (.map (some r)) (.map nx)))) ([], 0, 0, 0) rfl ?_ ?_ ?_ ?_ ?_ ?_
  ·exact ⟨fun z hz => by simp at hz, List.nodup_nil⟩
  ·exact zF
  ·exact zX
  ·rintro ⟨done, wi, vl, wv⟩ hI
   exact (by (try dsimp only); repeat' (first | exact trivial | refine ⟨?_, ?_⟩ | exact .v | exact .any | refine .elem ?_ | exact bj _ _ | exact et _ _ | exact dv _ _ | exact ey _ (by (try dsimp only); omega) | exact .box (by (try dsimp only); omega) | exact el | exact cv | exact vk (ml _ _) | exact d8 _ | refine fb ?_ ?_ | exact .arr (by (try dsimp only); omega) | exact .own (by (try dsimp only); omega) | exact .map (by (try dsimp only); omega) | exact d8 _ | refine bv ?_ ?_ | exact bj _ _))
  ·rintro ⟨done, wi, vl, wv⟩ hI
   exact (by (repeat' (refine ki ?_ (by (try dsimp only); omega) ?_)); all_goals (first | exact kj zS | (repeat' (first | exact trivial | refine ⟨?_, ?_⟩ | exact .v | exact .any | refine .elem ?_ | exact bj _ _ | exact et _ _ | exact dv _ _ | exact ey _ (by (try dsimp only); omega) | exact .box (by (try dsimp only); omega) | exact el | exact cv | exact vk (ml _ _) | exact d8 _ | refine fb ?_ ?_ | exact .arr (by (try dsimp only); omega) | exact .own (by (try dsimp only); omega) | exact .map (by (try dsimp only); omega) | exact d8 _ | refine bv ?_ ?_ | exact bj _ _))))
  rintro ⟨done, wi, vl, wv⟩ hI8
  dsimp only at hI8 ⊢
  refine yS fun _ K34 => ?_
  refine yR ?_
  try dsimp only [St.put]
  refine ae rfl (udp (done := done) rfl rfl zG zG zG (hks0) (hinj) (hI8.1) (fun hend => ?_) (fun y c hym hyk hyd => ?_))
  ·have hdl := ur hp hI8.2 (fun q hq => onceM_ne.1 ((hks0 q).2 (hI8.1 q hq)))
   have hdk : ∀ q, q ∈ done ↔ fl x.found x.well q = true := fun q => ⟨fun hq => onceM_ne.1 ((hks0 q).2 (hI8.1 q hq)), fun hq => hend q ((hks0 q).1 (onceM_ne.2 hq))⟩
   have hpb := ubh hp ht (fun q hq => (hdk q).1 hq)
   refine yX rfl rfl rfl rfl ?_
   refine yN ?_
   dsimp only [St.put]
   refine K34 _ ?_
   refine yS fun _ K35 => ?_
   refine ar rfl (fun h => by cases h) (fun _ => ?_)
   refine c5 ?_
   refine K32 _ ?_
   refine yS fun _ K36 => ?_
   have hpb2 : ∀ y ∈ ([] : List PlaceD) ++ done, PBd9 y := fun y hy => hpb y (by simpa using hy)
   refine yR ?_
   refine yM rfl rfl ?_
   try dsimp only [St.put]
   refine ae rfl (udn z7 PBd9 k8 rfl rfl rfl rfl zG rfl rfl rfl (fun y hy => hy.plain) hpb2 (by first | (rw [List.length_append]; omega) | (simp only [List.nil_append]; omega)) (fun a b _ _ => xj a b _ _) ubf (fun ys hperm hsort => ?_))
   refine yN ?_
   dsimp only [St.put]
   have hlen := hperm.length_eq
   rw [← hB] at hperm hlen
   obtain rfl := uer hp hI8.2 hdk hperm hsort
   refine K36 _ ?_
   refine vx 14 (lst ([] : List PlaceD)) rfl Wk.tok ?_
   refine y9 17 (dn p.text x) rfl zG rfl rfl (by rw [hlen, hB]) ?_
   dsimp only
   refine uel [(0, none), (1, none), (2, none), (3, none), (4, none), (5, none), (6, none), (7, none), (10, none), (11, none), (12, none), (13, none), (14, none), (17, none), (18, none), (19, none), (20, none), (21, none)] (fun i => [23, 26, 29, 32].contains i) (fun i => [0, 1, 2, 3, 4, 5, 7, 10, 11, 12, 14, 17, 18, 19, 21].contains i) 15 (rl [8, 2, 5, 2, 5, 11]) [nB] (by kernel_rfl) (by kernel_rfl) ?_
   refine xM rfl rfl rfl rfl rfl ?_
   refine xM rfl rfl rfl rfl rfl ?_
   refine xM rfl rfl rfl rfl rfl ?_
   refine xM rfl rfl rfl rfl rfl ?_
   refine af rfl rfl rfl rfl (jy rfl rfl) ?_
   refine af rfl rfl rfl rfl (eb rfl rfl) ?_
   try dsimp only [St.put]
   refine aw rfl rfl rfl rfl (fj rfl rfl zG (by simp) (by first | rfl | assumption)) ?_
   refine xM rfl rfl rfl rfl rfl ?_
   refine xM rfl rfl rfl rfl rfl ?_
   refine af rfl rfl rfl rfl (jy rfl rfl) ?_
   refine af rfl rfl rfl rfl (eb rfl rfl) ?_
   try dsimp only [St.put]
   refine aw rfl rfl rfl rfl (fj rfl rfl zG (by simp) (by first | rfl | assumption)) ?_
   refine xM rfl rfl rfl rfl rfl ?_
   refine xM rfl rfl rfl rfl rfl ?_
   refine af rfl rfl rfl rfl (jy rfl rfl) ?_
   refine af rfl rfl rfl rfl (eb rfl rfl) ?_
   try dsimp only [St.put]
   refine aw rfl rfl rfl rfl (fj rfl rfl zG (by simp) (by first | rfl | assumption)) ?_
   refine xM rfl rfl rfl rfl rfl ?_
   refine bz ⟨zD, ?_⟩
   dsimp only [St.put]
   refine uew ws al bo (er p.text x : Int) (dn p.text x) (([] : List PlaceD)) nB a1 a2 a3 _ rfl (by kernel_rfl) (by kernel_rfl) (by kernel_rfl) rfl rfl rfl rfl rfl rfl rfl rfl rfl rfl rfl rfl rfl zG zG zG zG d1 d2 d3 d4 d5 d6 hw ha hb ?_
   dsimp only
   refine rb [(24, none), (25, none)] 7 (rl [26, 7]) (by kernel_rfl) ?_
   refine af rfl rfl rfl rfl (jy rfl rfl) ?_
   refine af rfl rfl rfl rfl (eb rfl rfl) ?_
   refine bz ⟨zD, ?_⟩
   refine px [26] (by kernel_rfl) (by simp) ?_
   refine ra ?_ ?_
   ·try dsimp only [St.put]
    refine qw rfl rfl rfl rfl (j6 rfl rfl rfl zG (by constructor) rfl zO ?_)
    refine rb [(27, none), (28, none)] 4 (rl [29, 4]) (by kernel_rfl) ?_
    refine af rfl rfl rfl rfl (jy rfl rfl) ?_
    refine af rfl rfl rfl rfl (eb rfl rfl) ?_
    refine bz ⟨zD, ?_⟩
    refine px [29] (by kernel_rfl) (by simp) ?_
    refine ra ?_ ?_
    ·try dsimp only [St.put]
     refine qw rfl rfl rfl rfl (j6 rfl rfl rfl zG (by constructor) rfl zO ?_)
     refine rb [(30, none), (31, none)] 1 (rl [32, 1]) (by kernel_rfl) ?_
     refine af rfl rfl rfl rfl (jy rfl rfl) ?_
     refine af rfl rfl rfl rfl (eb rfl rfl) ?_
     refine bz ⟨zD, ?_⟩
     refine px [32] (by kernel_rfl) (by simp) ?_
     refine ra ?_ ?_
     ·try dsimp only [St.put]
      refine qw rfl rfl rfl rfl (j6 rfl rfl rfl zG (by constructor) rfl zO ?_)
      dsimp only [St.put]
      refine uex (by kernel_rfl) ?_
      rw [hB]
      refine udg rfl (.inl rfl) zN (zu zG zG zG zG fun n o q1 q2 q3 q4 h => ?_)
      have hn := hlt n o h
      (try dsimp only)
      repeat (first | exact h | rw [ib (by omega)] | rw [lh (by omega)])
     exact qz
    exact qz
   exact qz
  have hz0 := xm hym
  subst hz0
  obtain ⟨z, hz⟩ : ∃ z, z = y := ⟨_, rfl⟩
  subst hz
  have hIn : ∀ z ∈ ks, ∀ x ∈ done ++ [z], x ∈ ks := fun z hz x hx => by
   rcases List.mem_append.1 hx with hx | hx
   ·exact hI8.1 x hx
   rw [List.mem_singleton] at hx; exact hx ▸ hz
  have hIu : ∀ z, z ∉ done → (done ++ [z]).Nodup := fun z hz => List.nodup_append.2 ⟨hI8.2, by simp, fun a ha b hb => by
   rw [List.mem_singleton] at hb; subst hb; exact fun e => hz (e ▸ ha)⟩
  have hdl := ur hp hI8.2 (fun q hq => onceM_ne.1 ((hks0 q).2 (hI8.1 q hq)))
  refine yX rfl rfl rfl rfl ?_
  refine yN ?_
  dsimp only [St.put]
  refine K34 _ ?_
  refine yS fun _ K37 => ?_
  refine ar rfl (fun _ => ?_) (fun h => by cases h)
  refine ax ?_
  refine K37 _ ?_
  refine bh ?_
  refine yS fun _ K38 => ?_
  refine yR ?_
  try dsimp only [St.put]
  refine bq rfl (uag (fx := nx + 1 + 1 + 1) (n := nx) rfl rfl zG trivial zG zG trivial (by assumption)) ?_
  refine yX rfl rfl rfl rfl ?_
  try dsimp only [St.put]
  refine ae rfl (dm rfl ?_)
  try dsimp only [St.put]
  refine ae rfl (cp rfl rfl rfl zG rfl rfl (by rfl) ?_)
  refine yN ?_
  dsimp only [St.put]
  refine K38 _ ?_
  refine fw (i := 18) rfl zG zC ?_
  dsimp only
  refine yR ?_
  refine yM rfl rfl ?_
  try dsimp only [St.put]
  refine bq rfl (d9 rfl rfl rfl) ?_
  try dsimp only [St.put]
  refine ae rfl (dl rfl rfl rfl (by decide) (by decide) zR (by decide) ?_)
  try dsimp only [St.put]
  refine ae rfl (vr (xs := ([] : List PlaceD) ++ done) [z] rfl rfl zG rfl rfl rfl rfl zA zA (fun v3 => ?_))
  refine yA rfl rfl ?_
  refine yN ?_
  dsimp only [St.put]
  simp only [List.append_assoc]
  exact ⟨(done ++ [z], wi + 1, v3, wv), ucg hyk hyd, ⟨hIn z hyk, hIu z hyd⟩, ⟨⟨rfl, rfl⟩, zF, zB, zN, zX⟩⟩
 refine yR ?_
 refine yA rfl rfl ?_
 refine yN ?_
 dsimp only [St.put]
 refine K22 _ ?_
 refine pr 14 54 3 rfl (by decide) ?_
 dsimp only [List.set_cons_zero, List.set_cons_succ]
 refine yS fun _ K39 => ?_
 refine yS fun _ K40 => ?_
 refine yR ?_
 refine yF rfl rfl rfl rfl ?_
 refine yL rfl rfl rfl ?_
 refine aa rfl (bf rfl rfl (List.length_map _)) ?_
 refine yM rfl rfl ?_
 refine yN ?_
 dsimp only [St.put]
 refine K40 _ ?_
 refine bh ?_
 refine ck 72 ?_
 refine zQ ?_
 refine dd (ak ((ak G nx (gx Tryd.prog 54 (x.found.length) ((f4 (fl x.found (x.well.take 0))))))) (nx + 1) (.tip 0 54 3)) zX ?_
 dsimp only
 refine dc (X := Nat) (fun k => k ≤ x.well.length) (fun k => x.well.length - k) (fun k => [(14, .list ((l8 x.found x.well k).map cells) (.tip (nx + 1))), (16, .any), (71, .v (.int .i64 (k : Int)))]) (fun k G' => ak ((ak G nx (gx Tryd.prog 54 ((x.found.length + k)) ((f4 (fl x.found (x.well.take k))))))) (nx + 1) (.tip (l8 x.found x.well k).length 54 3)) 0 rfl ?_ ?_ ?_ ?_ ?_ ?_
 ·exact Nat.zero_le _
 ·exact zF
 ·exact zX
 ·rintro k hI
  exact (by (try dsimp only); repeat' (first | exact trivial | refine ⟨?_, ?_⟩ | exact .v | exact .any | refine .elem ?_ | exact bj _ _ | exact et _ _ | exact dv _ _ | exact ey _ (by (try dsimp only); omega) | exact .box (by (try dsimp only); omega) | exact el | exact cv | exact gw (ml _ _) | refine fb ?_ ?_ | exact .arr (by (try dsimp only); omega) | exact .own (by (try dsimp only); omega) | exact .map (by (try dsimp only); omega) | exact d8 _ | refine bv ?_ ?_ | exact bj _ _))
 ·rintro k hI
  exact (by (repeat' (refine ki ?_ (by (try dsimp only); omega) ?_)); all_goals (first | exact kj zS | (repeat' (first | exact trivial | refine ⟨?_, ?_⟩ | exact .v | exact .any | refine .elem ?_ | exact bj _ _ | exact et _ _ | exact dv _ _ | exact ey _ (by (try dsimp only); omega) | exact .box (by (try dsimp only); omega) | exact el | exact cv | exact gw (ml _ _) | refine fb ?_ ?_ | exact .arr (by (try dsimp only); omega) | exact .own (by (try dsimp only); omega) | exact .map (by (try dsimp only); omega) | exact d8 _ | refine bv ?_ ?_ | exact bj _ _))))
 rintro k hK
 dsimp only at hK ⊢
 refine yS fun _ K41 => ?_
 refine yR ?_
 refine aa rfl (ci rfl rfl rfl) ?_
 refine yN ?_
 dsimp only [St.put]
 refine K41 _ ?_
 refine yS fun _ K42 => ?_
 refine ar rfl (fun hc => ?_) (fun hc => ?_)
 ·replace hc := of_decide_eq_true hc
  obtain ⟨q, hq⟩ : ∃ q, x.well[k]? = some q := dj (by omega)
  have hbt := ud7 x.found x.well k
  refine ax ?_
  refine K42 _ ?_
  refine yS fun _ K43 => ?_
  refine bh ?_
  refine yS fun _ K44 => ?_
  refine yR ?_
  refine aa rfl (bu rfl rfl rfl rfl (bp (by assumption)) (Enc.len _)) ?_
  refine yE rfl rfl rfl ?_
  try dsimp only [St.put]
  refine ae rfl (dm rfl ?_)
  try dsimp only [St.put]
  refine ae rfl (cp rfl rfl rfl zG rfl rfl (by rfl) ?_)
  refine yN ?_
  dsimp only [St.put]
  refine K44 _ ?_
  refine fw (i := 16) rfl zG zC ?_
  dsimp only
  refine yS fun _ K45 => ?_
  refine yR ?_
  refine yM rfl rfl ?_
  refine yE rfl rfl rfl ?_
  try dsimp only [St.put]
  refine bq rfl (uj q rfl rfl zG trivial rfl (ubk _ _)) ?_
  refine yN ?_
  dsimp only [St.put]
  refine K45 _ ?_
  refine ar rfl (fun hc => ?_) (fun hc => ?_)
  ·have hin : q ∈ x.found := by
    rw [ut hnd2 hq] at hc
    exact of_decide_eq_true hc
   refine yS fun _ K46 => ?_
   refine yR ?_
   refine yM rfl rfl ?_
   refine yE rfl rfl rfl ?_
   try dsimp only [St.put]
   refine ae rfl (dl rfl rfl rfl (by decide) (by decide) zR (by decide) ?_)
   try dsimp only [St.put]
   refine ae rfl (kp ([q]) rfl rfl zG zE rfl rfl zA ?_ zA)
   refine yA rfl rfl ?_
   refine yN ?_
   dsimp only [St.put]
   refine K46 _ ?_
   refine yR ?_
   refine yM rfl rfl ?_
   refine yE rfl rfl rfl ?_
   try dsimp only [St.put]
   refine ae rfl (uds q rfl rfl zG rfl (ubj hnd2 hq hin) ?_)
   refine yN ?_
   dsimp only [St.put]
   refine K43 _ ?_
   refine yR ?_
   refine aa rfl (ca rfl rfl rfl (by omega)) ?_
   refine yM rfl rfl ?_
   refine yN ?_
   dsimp only [St.put]
   have e := ud6 (F := x.found) hq
   first
   | (have hi : q ∈ x.found := hin
      rw [decide_eq_true hi, cond_true] at e
      simp only [← e]
      exact ⟨k + 1, by omega, by omega, ⟨⟨rfl, rfl⟩, zF, zB, zN, zX⟩⟩)
   | (have hi : q ∉ x.found := hout
      rw [decide_eq_false hi, cond_false, List.append_nil] at e
      simp only [← e]
      exact ⟨k + 1, by omega, by omega, ⟨⟨rfl, rfl⟩, zF, zB, zN, zX⟩⟩)
  have hout : q ∉ x.found := by
   rw [ut hnd2 hq] at hc
   exact of_decide_eq_false hc
  refine yR ?_
  refine yM rfl rfl ?_
  refine yE rfl rfl rfl ?_
  try dsimp only [St.put]
  refine ae rfl (th (q) rfl rfl rfl zG rfl (ubi hnd2 hq hout) ?_)
  refine yN ?_
  dsimp only [St.put]
  refine K43 _ ?_
  refine yR ?_
  refine aa rfl (ca rfl rfl rfl (by omega)) ?_
  refine yM rfl rfl ?_
  refine yN ?_
  dsimp only [St.put]
  have e := ud6 (F := x.found) hq
  first
  | (have hi : q ∈ x.found := hin
     rw [decide_eq_true hi, cond_true] at e
     simp only [← e]
     exact ⟨k + 1, by omega, by omega, ⟨⟨rfl, rfl⟩, zF, zB, zN, zX⟩⟩)
  | (have hi : q ∉ x.found := hout
     rw [decide_eq_false hi, cond_false, List.append_nil] at e
     simp only [← e]
     exact ⟨k + 1, by omega, by omega, ⟨⟨rfl, rfl⟩, zF, zB, zN, zX⟩⟩)
 replace hc := of_decide_eq_false hc
 obtain rfl : k = x.well.length := by omega
 rw [uma hp]
 refine c5 ?_
 refine K39 _ ?_
 refine yS fun _ K47 => ?_
 refine vx 14 (lst (cj p.text x)) rfl Wk.tok ?_
 refine yR ?_
 refine yM rfl rfl ?_
 try dsimp only [St.put]
 refine ae rfl (ti rfl rfl rfl (ulu (cj p.text x) hB (by omega) _ _) ?_)
 refine yA rfl rfl ?_
 refine yN ?_
 dsimp only [St.put]
 refine K47 _ ?_
 refine yS fun _ K48 => ?_
 refine yS fun _ K49 => ?_
 refine yR ?_
 refine yM rfl rfl ?_
 try dsimp only [St.put]
 refine ae rfl (udo rfl rfl zG fun r β cl ks hnd hks0 hinj => ?_)
 refine yN ?_
 dsimp only [St.put]
 refine K49 _ ?_
 rw [hmw] at hks0
 rw [hmw]
 refine bh ?_
 refine ck 91 ?_
 refine zQ ?_
 refine dd (ak (ak (ak (ak G nx (nk Tryd.prog 54 (x.found.length + x.well.length) (f4 (fl x.found x.well)) β cl)) (nx + 1 + 1) (.arr 0 0 54 3 (cj p.text x).length (cy (cj p.text x)))) (nx + 1 + 1 + 1) (.raw 0 (.mapIter (some r) cl (iy β ([] : List PlaceD)) cl))) (nx + 1 + 1 + 1 + 1) (.fact (.map (some r)) (.map nx))) zX ?_
 dsimp only
 refine dc (X := List PlaceD × Nat × Nat × Nat) (fun y => (∀ z ∈ y.1, z ∈ ks) ∧ y.1.Nodup) (fun y => sn ks y.1) (fun y => [(17, .own (nx + 1 + 1) y.2.2.1 (cj p.text x ++ y.1).length), (18, .any)]) (fun y G' => (ak (ak (ak (ak G nx (nk Tryd.prog 54 ((x.found.length + x.well.length)) (f4 ((fl x.found x.well))) β cl)) ((nx + 1 + 1)) (.arr y.2.2.1 y.2.2.2 54 3 ((cj p.text x ++ y.1)).length (cy ((cj p.text x ++ y.1))))) ((nx + 1 + 1 + 1)) (.raw y.2.1 (.mapIter (some r) cl (iy β y.1) cl))) ((nx + 1 + 1 + 1 + 1)) (.fact (.map (some r)) (.map nx)))) ([], 0, 0, 0) rfl ?_ ?_ ?_ ?_ ?_ ?_
 ·exact ⟨fun z hz => by simp at hz, List.nodup_nil⟩
 ·simp only [List.append_nil]
  exact zF
 ·simp only [List.append_nil]
  exact zX
 ·rintro ⟨done, wi, vl, wv⟩ hI
  exact (by (try dsimp only); repeat' (first | exact trivial | refine ⟨?_, ?_⟩ | exact .v | exact .any | refine .elem ?_ | exact bj _ _ | exact et _ _ | exact dv _ _ | exact ey _ (by (try dsimp only); omega) | exact .box (by (try dsimp only); omega) | exact el | exact cv | exact vk (ml _ _) | exact d8 _ | refine fb ?_ ?_ | exact .arr (by (try dsimp only); omega) | exact .own (by (try dsimp only); omega) | exact .map (by (try dsimp only); omega) | exact d8 _ | refine bv ?_ ?_ | exact bj _ _))
 ·rintro ⟨done, wi, vl, wv⟩ hI
  exact (by (repeat' (refine ki ?_ (by (try dsimp only); omega) ?_)); all_goals (first | exact kj zS | (repeat' (first | exact trivial | refine ⟨?_, ?_⟩ | exact .v | exact .any | refine .elem ?_ | exact bj _ _ | exact et _ _ | exact dv _ _ | exact ey _ (by (try dsimp only); omega) | exact .box (by (try dsimp only); omega) | exact el | exact cv | exact vk (ml _ _) | exact d8 _ | refine fb ?_ ?_ | exact .arr (by (try dsimp only); omega) | exact .own (by (try dsimp only); omega) | exact .map (by (try dsimp only); omega) | exact d8 _ | refine bv ?_ ?_ | exact bj _ _))))
 rintro ⟨done, wi, vl, wv⟩ hI8
 dsimp only at hI8 ⊢
 refine yS fun _ K50 => ?_
 refine yR ?_
 try dsimp only [St.put]
 refine ae rfl (udp (done := done) rfl rfl zG zG zG (hks0) (hinj) (hI8.1) (fun hend => ?_) (fun y c hym hyk hyd => ?_))
 ·have hdl := ur hp hI8.2 (fun q hq => onceM_ne.1 ((hks0 q).2 (hI8.1 q hq)))
  have hdk : ∀ q, q ∈ done ↔ fl x.found x.well q = true := fun q => ⟨fun hq => onceM_ne.1 ((hks0 q).2 (hI8.1 q hq)), fun hq => hend q ((hks0 q).1 (onceM_ne.2 hq))⟩
  have hpb := ubh hp ht (fun q hq => (hdk q).1 hq)
  refine yX rfl rfl rfl rfl ?_
  refine yN ?_
  dsimp only [St.put]
  refine K50 _ ?_
  refine yS fun _ K51 => ?_
  refine ar rfl (fun h => by cases h) (fun _ => ?_)
  refine c5 ?_
  refine K48 _ ?_
  refine yS fun _ K52 => ?_
  have hpb2 : ∀ y ∈ cj p.text x ++ done, PBd9 y := fun y hy => by
   rcases List.mem_append.1 hy with hy | hy
   ·exact umb hp ht hy
   exact hpb y hy
  refine yR ?_
  refine yM rfl rfl ?_
  try dsimp only [St.put]
  refine ae rfl (udn z7 PBd9 k8 rfl rfl rfl rfl zG rfl rfl rfl (fun y hy => hy.plain) hpb2 (by first | (rw [List.length_append]; omega) | (simp only [List.nil_append]; omega)) (fun a b _ _ => xj a b _ _) ubf (fun ys hperm hsort => ?_))
  refine yN ?_
  dsimp only [St.put]
  have hlen := hperm.length_eq
  obtain rfl := uer hp hI8.2 hdk hperm hsort
  refine K52 _ ?_
  refine y9 17 (dn p.text x) rfl zG rfl rfl hlen.symm ?_
  dsimp only
  refine uel [(0, none), (1, none), (2, none), (3, none), (4, none), (5, none), (6, none), (7, none), (10, none), (11, none), (12, none), (13, none), (14, none), (17, none), (18, none), (19, none), (20, none), (21, none)] (fun i => [23, 26, 29, 32].contains i) (fun i => [0, 1, 2, 3, 4, 5, 7, 10, 11, 12, 14, 17, 18, 19, 21].contains i) 15 (rl [8, 2, 5, 2, 5, 11]) [nB] (by kernel_rfl) (by kernel_rfl) ?_
  refine xM rfl rfl rfl rfl rfl ?_
  refine xM rfl rfl rfl rfl rfl ?_
  refine xM rfl rfl rfl rfl rfl ?_
  refine xM rfl rfl rfl rfl rfl ?_
  refine af rfl rfl rfl rfl (jy rfl rfl) ?_
  refine af rfl rfl rfl rfl (eb rfl rfl) ?_
  try dsimp only [St.put]
  refine aw rfl rfl rfl rfl (fj rfl rfl zG (by simp) (by first | rfl | assumption)) ?_
  refine xM rfl rfl rfl rfl rfl ?_
  refine xM rfl rfl rfl rfl rfl ?_
  refine af rfl rfl rfl rfl (jy rfl rfl) ?_
  refine af rfl rfl rfl rfl (eb rfl rfl) ?_
  try dsimp only [St.put]
  refine aw rfl rfl rfl rfl (fj rfl rfl zG (by simp) (by first | rfl | assumption)) ?_
  refine xM rfl rfl rfl rfl rfl ?_
  refine xM rfl rfl rfl rfl rfl ?_
  refine af rfl rfl rfl rfl (jy rfl rfl) ?_
  refine af rfl rfl rfl rfl (eb rfl rfl) ?_
  try dsimp only [St.put]
  refine aw rfl rfl rfl rfl (fj rfl rfl zG (by simp) (by first | rfl | assumption)) ?_
  refine xM rfl rfl rfl rfl rfl ?_
  refine bz ⟨zD, ?_⟩
  dsimp only [St.put]
  refine uew ws al bo (er p.text x : Int) (dn p.text x) (cj p.text x) nB a1 a2 a3 _ rfl (by kernel_rfl) (by kernel_rfl) (by kernel_rfl) rfl rfl rfl rfl rfl rfl rfl rfl rfl rfl rfl rfl rfl zG zG zG zG d1 d2 d3 d4 d5 d6 hw ha hb ?_
  dsimp only
  refine rb [(24, none), (25, none)] 7 (rl [26, 7]) (by kernel_rfl) ?_
  refine af rfl rfl rfl rfl (jy rfl rfl) ?_
  refine af rfl rfl rfl rfl (eb rfl rfl) ?_
  refine bz ⟨zD, ?_⟩
  refine px [26] (by kernel_rfl) (by simp) ?_
  refine ra ?_ ?_
  ·try dsimp only [St.put]
   refine qw rfl rfl rfl rfl (j6 rfl rfl rfl zG (by constructor) rfl zO ?_)
   refine rb [(27, none), (28, none)] 4 (rl [29, 4]) (by kernel_rfl) ?_
   refine af rfl rfl rfl rfl (jy rfl rfl) ?_
   refine af rfl rfl rfl rfl (eb rfl rfl) ?_
   refine bz ⟨zD, ?_⟩
   refine px [29] (by kernel_rfl) (by simp) ?_
   refine ra ?_ ?_
   ·try dsimp only [St.put]
    refine qw rfl rfl rfl rfl (j6 rfl rfl rfl zG (by constructor) rfl zO ?_)
    refine rb [(30, none), (31, none)] 1 (rl [32, 1]) (by kernel_rfl) ?_
    refine af rfl rfl rfl rfl (jy rfl rfl) ?_
    refine af rfl rfl rfl rfl (eb rfl rfl) ?_
    refine bz ⟨zD, ?_⟩
    refine px [32] (by kernel_rfl) (by simp) ?_
    refine ra ?_ ?_
    ·try dsimp only [St.put]
     refine qw rfl rfl rfl rfl (j6 rfl rfl rfl zG (by constructor) rfl zO ?_)
     dsimp only [St.put]
     refine uex (by kernel_rfl) ?_
     refine udg rfl (.inl rfl) zN (zu zG zG zG zG fun n o q1 q2 q3 q4 h => ?_)
     have hn := hlt n o h
     (try dsimp only)
     repeat (first | exact h | rw [ib (by omega)] | rw [lh (by omega)])
    exact qz
   exact qz
  exact qz
 have hz0 := xm hym
 subst hz0
 obtain ⟨z, hz⟩ : ∃ z, z = y := ⟨_, rfl⟩
 subst hz
 have hIn : ∀ z ∈ ks, ∀ x ∈ done ++ [z], x ∈ ks := fun z hz x hx => by
  rcases List.mem_append.1 hx with hx | hx
  ·exact hI8.1 x hx
  rw [List.mem_singleton] at hx; exact hx ▸ hz
 have hIu : ∀ z, z ∉ done → (done ++ [z]).Nodup := fun z hz => List.nodup_append.2 ⟨hI8.2, by simp, fun a ha b hb => by
  rw [List.mem_singleton] at hb; subst hb; exact fun e => hz (e ▸ ha)⟩
 have hdl := ur hp hI8.2 (fun q hq => onceM_ne.1 ((hks0 q).2 (hI8.1 q hq)))
 refine yX rfl rfl rfl rfl ?_
 refine yN ?_
 dsimp only [St.put]
 refine K50 _ ?_
 refine yS fun _ K53 => ?_
 refine ar rfl (fun _ => ?_) (fun h => by cases h)
 refine ax ?_
 refine K53 _ ?_
 refine bh ?_
 refine yS fun _ K54 => ?_
 refine yR ?_
 try dsimp only [St.put]
 refine bq rfl (uag (fx := nx + 1 + 1 + 1 + 1) (n := nx) rfl rfl zG trivial zG zG trivial (by assumption)) ?_
 refine yX rfl rfl rfl rfl ?_
 try dsimp only [St.put]
 refine ae rfl (dm rfl ?_)
 try dsimp only [St.put]
 refine ae rfl (cp rfl rfl rfl zG rfl rfl (by rfl) ?_)
 refine yN ?_
 dsimp only [St.put]
 refine K54 _ ?_
 refine fw (i := 18) rfl zG zC ?_
 dsimp only
 refine yR ?_
 refine yM rfl rfl ?_
 try dsimp only [St.put]
 refine bq rfl (d9 rfl rfl rfl) ?_
 try dsimp only [St.put]
 refine ae rfl (dl rfl rfl rfl (by decide) (by decide) zR (by decide) ?_)
 try dsimp only [St.put]
 refine ae rfl (vr (xs := cj p.text x ++ done) [z] rfl rfl zG rfl rfl rfl rfl zA zA (fun v3 => ?_))
 refine yA rfl rfl ?_
 refine yN ?_
 dsimp only [St.put]
 simp only [List.append_assoc]
 exact ⟨(done ++ [z], wi + 1, v3, wv), ucg hyk hyd, ⟨hIn z hyk, hIu z hyd⟩, ⟨⟨rfl, rfl⟩, zF, zB, zN, zX⟩⟩
end Go.Proofs.YtbbdginipiljdaaDoor
namespace Go.AB
open Go Go.RowKit
open Go.AB.Enc (cells)
open Go.PB (av aj PlaceD az bd bc bi am ah cc bg ct cw)
end Go.AB
namespace Go.Proofs.YtbbdginipiljdaaDoor
set_option maxRecDepth 10000
open Go Go.RowKit Go.AB
open Go.AB.Enc (cells)
open Go.PB (av aj PlaceD az bd bc bi am ah cc bg ct cw)
theorem ulw (l : List Int) (he : l = []) : Pure Tryd.prog 86 [lst l] (lst l) := by
 subst he
 refine co Tryd.func86 rfl (fun m => (bj _ _)) fun G nx => ?_
 simp only [Tryd.ntmps86, List.length_cons, List.length_nil, Nat.reduceAdd, Nat.reduceSub]
 refine bl fun hlt => ?_
 dsimp only at hlt
 refine yS fun _ K1 => ?_
 refine yR ?_
 refine yA rfl rfl ?_
 refine yN ?_
 dsimp only [St.put]
 refine K1 _ ?_
 refine yS fun _ K2 => ?_
 refine yS fun _ K3 => ?_
 refine yR ?_
 refine yM rfl rfl ?_
 refine ae rfl (udr rfl rfl fun b _ => ?_)
 refine yN ?_
 dsimp only [St.put]
 refine K3 _ ?_
 refine ar rfl (fun hc => ?_) (fun hc => ?_)
 ·try replace hc := of_decide_eq_true hc
  refine yS fun _ K4 => ?_
  refine yR ?_
  refine yA rfl rfl ?_
  refine yN ?_
  dsimp only [St.put]
  refine K4 _ ?_
  refine aq ?_
  refine qs rfl (dq (by constructor)) zN zS ?_
  exact zW
 try replace hc := of_decide_eq_false hc
 refine ax ?_
 refine K2 _ ?_
 refine yS fun _ K5 => ?_
 refine yR ?_
 try dsimp only [St.put]
 refine ae rfl (vq rfl ?_)
 refine yM rfl rfl ?_
 try dsimp only [St.put]
 refine ae rfl (yu rfl rfl (.inl rfl) rfl (show 1 ≤ 1 by decide) (fun r hr => by cases hr) (by simp) (by simp) ?_)
 refine yA rfl rfl ?_
 refine yN ?_
 dsimp only [St.put]
 refine K5 _ ?_
 refine aq ?_
 refine qs rfl (dq (by constructor)) zN zS ?_
 exact zW
theorem yx (l : List Int) (hne : l ≠ []) (hl : l.length ≤ 1000) (G : Nat → Option GObj) (nx : Nat) : PC Tryd.prog 86 [lst l] G nx fun r G' nx' => r = .own nx 0 l.length ∧ G' = ak G nx (.arr 0 0 3 1 l.length (cy l)) ∧ nx' = nx + 1 := by
 refine ie (ak G nx (.arr 0 0 3 1 l.length (cy l))) (nx + 1) Tryd.func86 rfl (.own (Nat.lt_succ_self _)) zN (fun hlt => (by (repeat' (refine ki ?_ (by (try dsimp only); omega) ?_)); all_goals (first | exact kj zS | (repeat' (first | exact trivial | refine ⟨?_, ?_⟩ | exact .v | exact .any | refine .elem ?_ | exact bj _ _ | exact et _ _ | exact dv _ _ | exact ey _ (by (try dsimp only); omega) | exact .box (by (try dsimp only); omega) | exact el | exact cv | exact d8 _ | refine fb ?_ ?_ | exact .arr (by (try dsimp only); omega) | exact .own (by (try dsimp only); omega) | exact .map (by (try dsimp only); omega) | exact d8 _ | refine bv ?_ ?_ | exact bj _ _))))) ?_
 simp only [Tryd.ntmps86, List.length_cons, List.length_nil, Nat.reduceAdd, Nat.reduceSub]
 refine bl fun hlt => ?_
 dsimp only at hlt
 refine yS fun _ K1 => ?_
 refine yR ?_
 refine yA rfl rfl ?_
 refine yN ?_
 dsimp only [St.put]
 refine K1 _ ?_
 refine yS fun _ K2 => ?_
 refine yS fun _ K3 => ?_
 refine yR ?_
 refine yM rfl rfl ?_
 refine ae rfl (udq (fun e => hne (by simpa using e)) rfl rfl ?_)
 refine yN ?_
 dsimp only [St.put]
 refine K3 _ ?_
 refine ar rfl (fun hc => ?_) (fun hc => ?_)
 ·try replace hc := of_decide_eq_true hc
  refine yS fun _ K4 => ?_
  refine yR ?_
  refine yA rfl rfl ?_
  refine yN ?_
  dsimp only [St.put]
  refine K4 _ ?_
  refine aq ?_
  exact absurd hc (by decide)
 try replace hc := of_decide_eq_false hc
 refine ax ?_
 refine K2 _ ?_
 refine yS fun _ K5 => ?_
 refine yR ?_
 try dsimp only [St.put]
 refine ae rfl (vq rfl ?_)
 refine yM rfl rfl ?_
 try dsimp only [St.put]
 refine ae rfl (udt l rfl rfl (.inl rfl) rfl rfl hne (by decide) (by omega) (by omega) ?_)
 refine yA rfl rfl ?_
 refine yN ?_
 dsimp only [St.put]
 refine K5 _ ?_
 refine aq ?_
 refine ba rfl (by constructor) zN zS ?_
 rfl
set_option maxHeartbeats 1000000 in
theorem uia (p : ah) (R C : Nat → Int) (j : Nat) (x : am) (n : Int) (h : e8 p) (h0 : 0 < bw p) (hx : p.pages[j]? = some x) (hn : -1000000 ≤ n ∧ n ≤ 1000000) (hR : ∀ i, -1000000 ≤ R i ∧ R i ≤ 1000000) : Pure Tryd.prog 57 [val (fk p R C), .v (.int .i64 (j : Int)), .v (.int .i64 n)] (val (fk p ((br p).lessR R j n) (dw C j))) := by
 refine co Tryd.func57 rfl (fun m => (dv _ _)) fun G nx => ?_
 simp only [Tryd.ntmps57, List.length_cons, List.length_nil, Nat.reduceAdd, Nat.reduceSub]
 refine bl fun hlt => ?_
 dsimp only at hlt
 have hjl := (List.getElem?_eq_some_iff.1 hx).1
 have hrx := um hx
 have hn1 := h.nf
 have hn2 := h.ns
 have hnp := h.np
 have hnr : bw p = p.firsts.length + p.seconds.length := rfl
 have hrl := xf p x
 have hl1 := ja (bw p) R
 have hl2 := ja p.pages.length C
 have hne2 : cd p.pages.length C ≠ [] := fun e => by rw [e] at hl2; simp at hl2; omega
 have hne1 : cd (bw p) R ≠ [] := fun e => by rw [e] at hl1; simp at hl1; omega
 refine yS fun _ K1 => ?_
 refine yR ?_
 try dsimp only [St.put]
 refine ae rfl (yr rfl rfl ?_)
 try dsimp only [St.put]
 refine ae rfl (dm rfl ?_)
 refine yN ?_
 dsimp only [St.put]
 refine K1 _ ?_
 refine yS fun _ K2 => ?_
 refine gn [(0, none), (1, none), (3, none), (4, none), (2, none), (6, none), (5, none), (7, none), (8, none), (9, none)] (fun i => [5, 7, 9].contains i) (fun i => [2, 5, 7, 9].contains i) (fun i => [0, 3, 6, 8].contains i) [nx] (by kernel_rfl) (by kernel_rfl) ?_
 refine af rfl rfl rfl rfl (eb rfl rfl) ?_
 try dsimp only [St.put]
 refine aw rfl rfl rfl rfl (fj rfl rfl zG (by simp) (by first | rfl | assumption)) ?_
 refine af rfl rfl rfl rfl (eb rfl rfl) ?_
 try dsimp only [St.put]
 refine aw rfl rfl rfl rfl (fj rfl rfl zG (by simp) (by first | rfl | assumption)) ?_
 refine ji ?_
 try dsimp only [St.put]
 refine j7 rfl rfl rfl (ti rfl rfl rfl (yx (cd (bw p) R) hne1 (by omega) _ _) ⟨zD, ?_⟩)
 refine d7 rfl rfl rfl rfl (eb rfl rfl) ?_
 try dsimp only [St.put]
 refine ij rfl rfl rfl rfl (ti rfl rfl rfl (yx (cd p.pages.length C) hne2 (by omega) _ _) ?_)
 try dsimp only [St.put]
 refine ij rfl rfl rfl rfl (j6 rfl rfl rfl zG (by constructor) rfl zO ?_)
 refine d7 rfl rfl rfl rfl (eb rfl rfl) ?_
 try dsimp only [St.put]
 refine ij rfl rfl rfl rfl (j6 rfl rfl rfl zG (by constructor) rfl (by show 1 < 3; decide) ?_)
 refine jh ?_
 dsimp only [St.put]
 simp only [hl1, hl2]
 refine K2 _ ?_
 refine yS fun _ K3 => ?_
 refine yS fun _ K4 => ?_
 refine yR ?_
 refine aa rfl (eb rfl rfl) ?_
 try dsimp only [St.put]
 refine bq rfl (fj rfl rfl zG trivial (by first | rfl | assumption)) ?_
 refine yM rfl rfl ?_
 refine aa rfl (bu rfl rfl rfl rfl (bp (by assumption)) (Enc.len _)) ?_
 refine yL rfl rfl rfl ?_
 refine aa rfl (bf rfl rfl (List.length_map _)) ?_
 refine yM rfl rfl ?_
 refine yN ?_
 dsimp only [St.put]
 refine K4 _ ?_
 refine bh ?_
 refine ck 24 ?_
 refine zQ ?_
 refine dd ((ak (ak (ak (ak G nx (.box 2 [.own (nx + 1 + 1) 0 (bw p), .own (nx + 1 + 1 + 1) 0 p.pages.length, lst (p.pages.map (cx p))])) (nx + 1) (.box 0 [.list [] .nil, .list [] .nil, .list [] .nil])) (nx + 1 + 1) (.arr 0 0 3 1 (bw p) (cy (cd (bw p) (R))))) (nx + 1 + 1 + 1) (.arr 0 0 3 1 p.pages.length (cy (cd p.pages.length C))))) zX ?_
 dsimp only
 refine dc (X := Nat) (fun k => k ≤ (cx p x).length ∧ ∀ i, -1000000 - k * 1000000 ≤ kd R n ((cx p x).take k) i ∧ kd R n ((cx p x).take k) i ≤ 1000000 + k * 1000000) (fun k => (cx p x).length - k) (fun k => [(8, .any), (23, .v (.int .i64 (k : Int)))]) (fun k G' => (ak (ak (ak (ak G nx (.box 2 [.own (nx + 1 + 1) 0 (bw p), .own (nx + 1 + 1 + 1) 0 p.pages.length, lst (p.pages.map (cx p))])) (nx + 1) (.box 0 [.list [] .nil, .list [] .nil, .list [] .nil])) (nx + 1 + 1) (.arr 0 k 3 1 (bw p) (cy (cd (bw p) ((kd R n ((cx p x).take k))))))) (nx + 1 + 1 + 1) (.arr 0 0 3 1 p.pages.length (cy (cd p.pages.length C))))) 0 rfl ?_ ?_ ?_ ?_ ?_ ?_
 ·exact ⟨Nat.zero_le _, fun i => by have := hR i; simp only [List.take_zero, ugb]; omega⟩
 ·exact zF
 ·exact zX
 ·rintro k hI
  exact zL
 ·rintro k hI
  exact zH
 rintro k hI
 dsimp only at hI ⊢
 refine yS fun _ K5 => ?_
 refine yR ?_
 refine aa rfl (ci rfl rfl rfl) ?_
 refine yN ?_
 dsimp only [St.put]
 refine K5 _ ?_
 refine yS fun _ K6 => ?_
 refine ar rfl (fun hc => ?_) (fun hc => ?_)
 ·replace hc := of_decide_eq_true hc
  obtain ⟨zn, hz, hz6⟩ := xe h hx (k := k) (by omega)
  have hst := uga (R := R) (n := n) hz
  rw [Int.toNat_natCast] at hst
  have hI2 : ∀ i, -1000000 - ((k + 1 : Nat) : Int) * 1000000 ≤ kd R n ((cx p x).take (k + 1)) i ∧ kd R n ((cx p x).take (k + 1)) i ≤ 1000000 + ((k + 1 : Nat) : Int) * 1000000 := fun i => by
   rw [hst]
   have h1 := hI.2 i
   have h2 := hI.2 zn
   dsimp only
   cases decide (i = zn)
   ·rw [cond_false]
    omega
   rw [cond_true]
   omega
  have hI3 := hI.2 zn
  obtain ⟨S, hS⟩ : ∃ S, kd R n ((cx p x).take k) = S := ⟨_, rfl⟩
  rw [hS] at hst hI3 ⊢
  have hset := wx S (S zn - n) hz6
  rw [← hst] at hset
  refine ax ?_
  refine K6 _ ?_
  refine yS fun _ K7 => ?_
  refine bh ?_
  refine yS fun _ K8 => ?_
  refine yR ?_
  refine aa rfl (bu rfl rfl rfl rfl (bp (by assumption)) (Enc.len _)) ?_
  refine yL rfl rfl rfl ?_
  refine yA rfl rfl ?_
  refine yN ?_
  dsimp only [St.put]
  refine K8 _ ?_
  refine yR ?_
  refine aa rfl (eb rfl rfl) ?_
  try dsimp only [St.put]
  refine bq rfl (fj rfl rfl zG trivial (by first | rfl | assumption)) ?_
  refine yM rfl rfl ?_
  try dsimp only [St.put]
  refine aa rfl (uz rfl rfl zG rfl rfl hz6) ?_
  try dsimp only [St.put]
  refine bq rfl (ke rfl rfl zG (by simp) (uk5 (by rw [Nat.mul_one]; exact mg S hz6))) ?_
  refine yM rfl rfl ?_
  refine aa rfl (gq rfl rfl rfl (by omega)) ?_
  try dsimp only [St.put]
  refine aa rfl (uz rfl rfl zG rfl rfl hz6) ?_
  try dsimp only [St.put]
  refine ae rfl (yo (k := zn) (j := 0) (z := S zn) (z' := S zn - n) rfl rfl rfl zG rfl rfl (mg S hz6) rfl (by decide) rfl ?_)
  refine yN ?_
  dsimp only [St.put]
  refine K7 _ ?_
  refine yR ?_
  refine aa rfl (ca rfl rfl rfl (by omega)) ?_
  refine yM rfl rfl ?_
  refine yN ?_
  dsimp only [St.put]
  rw [hset]
  exact ⟨k + 1, by omega, ⟨by omega, hI2⟩, ⟨⟨rfl, rfl⟩, zF, zB, zN, zX⟩⟩
 replace hc := of_decide_eq_false hc
 rw [gg (show (cx p x).length ≤ k by omega), ← uj3 h hx]
 refine c5 ?_
 refine K3 _ ?_
 refine yS fun _ K9 => ?_
 refine yR ?_
 refine aa rfl (eb rfl rfl) ?_
 try dsimp only [St.put]
 refine bq rfl (fj rfl rfl zG trivial (by first | rfl | assumption)) ?_
 refine yM rfl rfl ?_
 try dsimp only [St.put]
 refine aa rfl (uz rfl rfl zG rfl rfl hjl) ?_
 try dsimp only [St.put]
 refine ae rfl (yo (k := j) (j := 0) (z := C j) (z' := 0) rfl rfl rfl zG rfl rfl (mg C hjl) rfl (by decide) rfl ?_)
 refine yN ?_
 dsimp only [St.put]
 rw [show (cd p.pages.length C).set j 0 = cd p.pages.length (dw C j) from wx C 0 hjl]
 refine K9 _ ?_
 refine yS fun _ K10 => ?_
 refine y8 nx 0 (cd (bw p) ((br p).lessR R j n)) zG rfl zG (by omega) rfl rfl (ja _ _).symm ?_
 refine y8 nx 1 (cd p.pages.length (dw C j)) zG rfl zG (by omega) rfl rfl (ja _ _).symm ?_
 dsimp only [List.set_cons_zero, List.set_cons_succ]
 refine yR ?_
 try dsimp only [St.put]
 refine bq rfl (iu rfl rfl zG trivial (by rfl)) ?_
 try dsimp only [St.put]
 refine ae rfl (cp rfl rfl rfl zG rfl rfl (by rfl) ?_)
 refine yN ?_
 dsimp only [St.put]
 refine K10 _ ?_
 refine aq ?_
 refine qs rfl (jo rfl zG (by rfl) zC rfl) zN zS ?_
 exact zW
set_option maxHeartbeats 1000000 in
theorem uib (p : ah) (R C : Nat → Int) (j : Nat) (x : am) (n : Int) (h : e8 p) (h0 : bw p = 0) (hx : p.pages[j]? = some x) (hn : -1000000 ≤ n ∧ n ≤ 1000000) (hR : ∀ i, -1000000 ≤ R i ∧ R i ≤ 1000000) : Pure Tryd.prog 57 [val (fk p R C), .v (.int .i64 (j : Int)), .v (.int .i64 n)] (val (fk p ((br p).lessR R j n) (dw C j))) := by
 refine co Tryd.func57 rfl (fun m => (dv _ _)) fun G nx => ?_
 simp only [Tryd.ntmps57, List.length_cons, List.length_nil, Nat.reduceAdd, Nat.reduceSub]
 refine bl fun hlt => ?_
 dsimp only at hlt
 have hjl := (List.getElem?_eq_some_iff.1 hx).1
 have hrx := um hx
 have hn1 := h.nf
 have hn2 := h.ns
 have hnp := h.np
 have hnr : bw p = p.firsts.length + p.seconds.length := rfl
 have hrl := xf p x
 have hl1 := ja (bw p) R
 have hl2 := ja p.pages.length C
 have hne2 : cd p.pages.length C ≠ [] := fun e => by rw [e] at hl2; simp at hl2; omega
 have he1 : cd (bw p) R = [] := by rw [h0]; rfl
 refine yS fun _ K1 => ?_
 refine yR ?_
 try dsimp only [St.put]
 refine ae rfl (yr rfl rfl ?_)
 try dsimp only [St.put]
 refine ae rfl (dm rfl ?_)
 refine yN ?_
 dsimp only [St.put]
 refine K1 _ ?_
 refine yS fun _ K2 => ?_
 refine gn [(0, none), (1, none), (3, none), (4, none), (2, none), (6, none), (5, none), (7, none), (8, none), (9, none)] (fun i => [5, 7, 9].contains i) (fun i => [2, 5, 7, 9].contains i) (fun i => [0, 3, 6, 8].contains i) [nx] (by kernel_rfl) (by kernel_rfl) ?_
 refine af rfl rfl rfl rfl (eb rfl rfl) ?_
 try dsimp only [St.put]
 refine aw rfl rfl rfl rfl (fj rfl rfl zG (by simp) (by first | rfl | assumption)) ?_
 refine af rfl rfl rfl rfl (eb rfl rfl) ?_
 try dsimp only [St.put]
 refine aw rfl rfl rfl rfl (fj rfl rfl zG (by simp) (by first | rfl | assumption)) ?_
 refine ji ?_
 try dsimp only [St.put]
 refine j7 rfl rfl rfl (ay rfl rfl rfl (ulw (cd (bw p) R) he1) ⟨zD, ?_⟩)
 refine d7 rfl rfl rfl rfl (eb rfl rfl) ?_
 try dsimp only [St.put]
 refine ij rfl rfl rfl rfl (ti rfl rfl rfl (yx (cd p.pages.length C) hne2 (by omega) _ _) ?_)
 try dsimp only [St.put]
 refine ij rfl rfl rfl rfl (j6 rfl rfl rfl zG (by constructor) rfl zO ?_)
 refine d7 rfl rfl rfl rfl (eb rfl rfl) ?_
 try dsimp only [St.put]
 refine ij rfl rfl rfl rfl (j6 rfl rfl rfl zG (by constructor) rfl (by show 1 < 3; decide) ?_)
 refine jh ?_
 dsimp only [St.put]
 simp only [hl1, hl2]
 refine K2 _ ?_
 refine yS fun _ K3 => ?_
 refine yS fun _ K4 => ?_
 refine yR ?_
 refine aa rfl (eb rfl rfl) ?_
 try dsimp only [St.put]
 refine bq rfl (fj rfl rfl zG trivial (by first | rfl | assumption)) ?_
 refine yM rfl rfl ?_
 refine aa rfl (bu rfl rfl rfl rfl (bp (by assumption)) (Enc.len _)) ?_
 refine yL rfl rfl rfl ?_
 refine aa rfl (bf rfl rfl (List.length_map _)) ?_
 refine yM rfl rfl ?_
 refine yN ?_
 dsimp only [St.put]
 refine K4 _ ?_
 refine bh ?_
 refine ck 24 ?_
 refine zQ ?_
 refine dc (X := Nat) (fun k => k ≤ (cx p x).length) (fun k => (cx p x).length - k) (fun k => [(8, .any), (23, .v (.int .i64 (k : Int)))]) (fun k G' => G') 0 rfl ?_ ?_ (fun _ _ h => h) ?_ ?_ ?_
 ·exact Nat.zero_le _
 ·exact zF
 ·rintro k hI
  exact zL
 ·exact fun _ _ _ _ h => .inl h
 rintro k hI
 dsimp only at hI ⊢
 refine yS fun _ K5 => ?_
 refine yR ?_
 refine aa rfl (ci rfl rfl rfl) ?_
 refine yN ?_
 dsimp only [St.put]
 refine K5 _ ?_
 refine yS fun _ K6 => ?_
 refine ar rfl (fun hc => ?_) (fun hc => ?_)
 ·replace hc := of_decide_eq_true hc
  obtain ⟨zn, hz, hz6⟩ := xe h hx (k := k) (by omega)
  omega
 replace hc := of_decide_eq_false hc
 refine c5 ?_
 refine K3 _ ?_
 refine yS fun _ K7 => ?_
 refine yR ?_
 refine aa rfl (eb rfl rfl) ?_
 try dsimp only [St.put]
 refine bq rfl (fj rfl rfl zG trivial (by first | rfl | assumption)) ?_
 refine yM rfl rfl ?_
 try dsimp only [St.put]
 refine aa rfl (uz rfl rfl zG rfl rfl hjl) ?_
 try dsimp only [St.put]
 refine ae rfl (yo (k := j) (j := 0) (z := C j) (z' := 0) rfl rfl rfl zG rfl rfl (mg C hjl) rfl (by decide) rfl ?_)
 refine yN ?_
 dsimp only [St.put]
 rw [show (cd p.pages.length C).set j 0 = cd p.pages.length (dw C j) from wx C 0 hjl]
 refine K7 _ ?_
 refine yS fun _ K8 => ?_
 refine y8 nx 1 (cd p.pages.length (dw C j)) zG rfl zG (by omega) rfl rfl (ja _ _).symm ?_
 dsimp only [List.set_cons_zero, List.set_cons_succ]
 rw [show cd (bw p) R = cd (bw p) ((br p).lessR R j n) by rw [h0]; rfl]
 refine yR ?_
 try dsimp only [St.put]
 refine bq rfl (iu rfl rfl zG trivial (by rfl)) ?_
 try dsimp only [St.put]
 refine ae rfl (cp rfl rfl rfl zG rfl rfl (by rfl) ?_)
 refine yN ?_
 dsimp only [St.put]
 refine K8 _ ?_
 refine aq ?_
 refine qs rfl (jo rfl zG (by rfl) zC rfl) zN zS ?_
 exact zW
theorem xi (p : ah) (R C : Nat → Int) (j : Nat) (x : am) (n : Int) (h : e8 p) (hx : p.pages[j]? = some x) (hn : -1000000 ≤ n ∧ n ≤ 1000000) (hR : ∀ i, -1000000 ≤ R i ∧ R i ≤ 1000000) : Pure Tryd.prog 57 [val (fk p R C), .v (.int .i64 (j : Int)), .v (.int .i64 n)] (val (fk p ((br p).lessR R j n) (dw C j))) := by
 by_cases h0 : bw p = 0
 ·exact uib p R C j x n h h0 hx hn hR
 exact uia p R C j x n h (by omega) hx hn hR
end Go.Proofs.YtbbdginipiljdaaDoor
namespace Go.AB
open Go Go.RowKit
open Go.AB.Enc (cells)
def ep (n : Nat) (F : GObj) (P : Program) (f : FuncId) (args : List C) (r : C) : Prop := ∀ G nx, G n = some F → n < nx → PC P f args G nx fun r' G' nx' => r' = r ∧ G' = G ∧ nx' = nx
theorem dr {n : Nat} {F : GObj} {P : Program} {o : Oper} {st : St} {f : FuncId} [Fun P f] {fv : Operand} {args : List Operand} {ats : Array TypeId} {caps al : List C} {K : St → Prop} {r : C} (ho : o.op = .call { callee := .value fv, args := args.toArray, argTypes := ats }) (hf : evC st fv = .fn (.func f) caps) (has : args.map (evC st) ++ caps = al)
  (hp : ep n F P f al r) (hG : st.G n = some F) (hn : n < st.nx) (h : K (st.put o.dst r)) : EStep P o st K := ulk ho hf has (hp _ _ hG hn) h
theorem ub0 {P : Program} {o : Oper} {st : St} {t : TypeId} {x i : Operand} {m j : Nat} {v : Value} {cs : List C} {d : C} {ds : List C} {e : TypeId} {ik : IntKind} {n : Int} {k sz : Nat} {ag : Bool} [ArrT P t m e] [Ty P e ag sz] (ho : o.op = .indexAddr t x i) (hx : evC st x = .v v) (hG : st.G j = some (.fact v (.elem cs))) (hi : evC st i = .v (.int ik n)) (hn : n = (k : Int)) (hk : k < m) (hd : cs.drop (k * sz) = d :: ds) : NStep P o st (.elem (d :: ds)) := fun E w a hs => by
 subst hn
 have e1 := (hi ▸ hs.ev i).v_inv
 have e0 := (hx ▸ hs.ev x).v_inv
 obtain ⟨b, off, us, hv, h1, h2, h3, h4, _⟩ := (hs.g.obj j _ hG).2.elem_inv
 refine ⟨.pointer (some ⟨b, off + k * sz, none⟩), hd ▸ R.elem_drop h1 h2 h3 h4 (k * sz) (by rw [hd]; simp), fun w' => ?_⟩
 have q1 := ArrT.spec (P := P) (t := t) (n := m) (e := e)
 have q2 := Ty.size (P := P) (w := w') (t := e) (ag := ag) (n := sz)
 have q3 : (k : Int) < (m : Int) := by omega
 simp [execOp, ho, Instr.indexAt, Instr.sureAddr, e0, hv, e1, asIntOf, run_underlying q1, q2, q3, pv]
 intro h; omega
end Go.AB
namespace Go.AB
open Go Go.RowKit
open Go.AB.Enc (cells)
open Go.PB (av aj PlaceD az bd bc bi am ah cc bg ct cw)
/-- the readers that have been looked at -/
def f5 (p : ah) : Nat → List bi
 | 0 => []
 | 1 => p.firsts
 | _ => p.firsts ++ p.seconds
theorem ug2 {p : ah} : ∀ {k : Nat}, k < 2 → f5 p (k + 1) = f5 p k ++ da p (decide (k = 1))
 | 0, _ => rfl
 | 1, _ => rfl
 | k + 2, h => by omega
def okR (l : List bi) : Prop := l.all f3 = true ∧ (l.map (·.id)).Nodup
theorem ui1 {l : List bi} {r : bi} (h : okR l) (h1 : f3 r = true) (h2 : r.id ∉ l.map (·.id)) : okR (l ++ [r]) := by
 refine ⟨by rw [List.all_append, h.1]; simp [h1], ?_⟩
 rw [List.map_append, List.nodup_append]
 refine ⟨h.2, by simp, fun a ha b hb e => ?_⟩
 simp only [List.map_cons, List.map_nil, List.mem_singleton] at hb
 subst hb; subst e
 exact h2 ha
theorem ug1 {p : ah} : ∀ {k i : Nat}, k < 2 → (f5 p k ++ (da p (decide (k = 1))).take i) <+: (p.firsts ++ p.seconds)
 | 0, i, _ => by
  show [] ++ p.firsts.take i <+: p.firsts ++ p.seconds
  rw [List.nil_append]
  exact (List.take_prefix i p.firsts).trans (List.prefix_append _ _)
 | 1, i, _ => (List.prefix_append_right_inj p.firsts).2 (List.take_prefix i p.seconds)
 | k + 2, _, h => by omega
theorem uhs {p : ah} {k i : Nat} {r : bi} (hk : k < 2) (hr : (da p (decide (k = 1)))[i]? = some r) (hb : f3 r = false ∨ r.id ∈ (f5 p k ++ (da p (decide (k = 1))).take i).map (·.id)) : ff p = false := by
 have hpre := ug1 (p := p) (k := k) (i := i + 1) hk
 rw [List.take_add_one, hr, Option.toList_some, ← List.append_assoc] at hpre
 unfold ff jc
 rcases hb with h | h
 ·have : (p.firsts ++ p.seconds).all f3 = false := List.all_eq_false.2 ⟨r, hpre.subset (by simp), by rw [h]; simp⟩
  rw [this]; simp
 have : ¬ ((p.firsts ++ p.seconds).map (·.id)).Nodup := fun hn => by
  have h2 := hn.sublist (List.Sublist.map (·.id) hpre.sublist)
  rw [List.map_append, List.nodup_append] at h2
  exact h2.2.2 _ h r.id (by simp) rfl
 rw [decide_eq_false this]; simp
theorem ujv {p : ah} {b : Bool} (h : ¬ (da p b).length ≤ 3) : ff p = false := by
 unfold ff jc
 cases b
 ·rw [decide_eq_false (show ¬ p.firsts.length ≤ 3 from h)]; simp
 rw [decide_eq_false (show ¬ p.seconds.length ≤ 3 from h)]; simp
theorem uh5 {p : ah} (h : ¬ p.pages.length ≤ 8) : ff p = false := by
 unfold ff
 rw [decide_eq_false h]; simp
theorem ukn {l : List bi} (r : bi) : jp (gu (l.map (·.id))) r.id (.v (.bool true)) = gu ((l ++ [r]).map (·.id)) := by
 funext x
 unfold jp gu
 rw [List.map_append]
 by_cases hx : x = r.id
 ·simp [hx]
 simp [hx]
/-- a side of a page is as it may be -/
def rt (p : ah) (x : am) (b : Bool) : Bool := inB (eo b x) (-1) (((da p b).length : Int) - 1) && gi p.text x (eo b x) (cr b x)
def o8 (p : ah) (last : Int) (x : am) : Bool := decide (last < x.fr) && decide (x.fr ≤ x.to) && decide (x.to < (lv p.text : Int))
def n1 (p : ah) (last : Int) (x : am) : Nat → Bool
 | 0 => o8 p last x
 | k + 1 => n1 p last x k && rt p x (decide (k = 1))
theorem ugp (p : ah) (last : Int) (x : am) : n1 p last x 2 = k7 p last x := by
 show ((o8 p last x && rt p x false) && rt p x true) = _
 unfold o8 rt k7
 cases decide (last < x.fr) <;> cases decide (x.fr ≤ x.to) <;> cases decide (x.to < (lv p.text : Int)) <;> simp [da, eo, cr, Bool.and_assoc]
/-- where proofs are opened -/
def jd (p : ah) : C := bif decide (ce p = 0) then .elem [lst p.text, lst p.firsts, lst p.seconds, lst p.pages, lst (p.pages.map fun x => (er p.text x : Int)), lst (p.pages.map (dn p.text)), lst (p.pages.map (cj p.text))] else .v (.pointer none)
theorem ubn (m : Nat) (p : ah) : C.low m (jd p) := by
 unfold jd
 cases decide (ce p = 0)
 ·exact .v
 refine .elem fun c hc => ?_
 simp only [List.mem_cons, List.not_mem_nil, or_false] at hc
 rcases hc with rfl | rfl | rfl | rfl | rfl | rfl | rfl <;> exact bj m _
theorem uu {p : ah} (h : ce p = 0) : jd p = .elem [lst p.text, lst p.firsts, lst p.seconds, lst p.pages, lst (p.pages.map fun x => (er p.text x : Int)), lst (p.pages.map (dn p.text)), lst (p.pages.map (cj p.text))] := by unfold jd; rw [decide_eq_true h]; rfl
theorem se {p : ah} (h : ce p ≠ 0) : jd p = .v (.pointer none) := by unfold jd; rw [decide_eq_false h]; rfl
theorem wu {α : Type} {l : List α} {k : Nat} {x : α} (h : l[k]? = some x) : l.take (k + 1) = l.take k ++ [x] := by rw [List.take_add_one, h]; rfl
theorem nil_len {α : Type} {l : List α} : l = [] ↔ (l.length : Int) = 0 := by
 constructor
 ·rintro rfl; rfl
 intro h; exact List.eq_nil_of_length_eq_zero (by omega)
theorem iw {t : aj} {x : am} {l : List PlaceD} {i : Nat} {q : PlaceD} (h : l[i]? = some q) : i2 t x l i = (eu t q && gh t x q && (decide (i = 0) || match l[i - 1]? with | none => true | some a => l9 a q)) := by unfold i2; rw [h]; rfl
theorem ul1 {p : ah} (h : c6 p.text = false) : ce p = 10 := by unfold ce; rw [h]; rfl
theorem vv {p : ah} (h : c6 p.text = true) (hp : ff p = false) : ce p = 90 := by unfold ce; rw [h, hp]; rfl
theorem ul2 {p : ah} (h : c6 p.text = true) (hp : ff p = true) : ce p = 0 := by unfold ce; rw [h, hp]; rfl
end Go.AB
namespace Go.Proofs.YtbbdginipiljdaaDoor
set_option maxRecDepth 10000
open Go Go.RowKit Go.AB
open Go.AB.Enc (cells)
open Go.PB (av aj PlaceD az bd bc bi am ah cc bg ct cw)
set_option maxHeartbeats 4000000 in
theorem m9 (n : Nat) (p : ah) : ep n em Tryd.prog 45 [val p] (.tup [jd p, .v (.int .i64 (ce p))]) := fun G nx hF hnx => by
 refine ie (G) (nx) Tryd.func45 rfl (.tup (bv (ubn _ _) (bv .v cv))) zN (fun hlt => zH) ?_
 simp only [Tryd.ntmps45, List.length_cons, List.length_nil, Nat.reduceAdd, Nat.reduceSub]
 refine bl fun hlt => ?_
 dsimp only at hlt
 refine yS fun _ K1 => ?_
 refine yR ?_
 try dsimp only [St.put]
 refine yB rfl rfl rfl ?_
 refine yA rfl rfl ?_
 refine yA rfl rfl ?_
 refine yN ?_
 dsimp only [St.put]
 refine K1 _ ?_
 refine ueh ?_
 refine yS fun _ K2 => ?_
 refine yS fun _ K3 => ?_
 refine yR ?_
 refine yF rfl rfl rfl rfl ?_
 try dsimp only [St.put]
 refine bq rfl (c := ir p.text) (jj (cs := cells p) rfl rfl (show 1 ≤ 4 by decide)) ?_
 try dsimp only [St.put]
 refine ae rfl (ay rfl rfl rfl (ukb p.text) ?_)
 refine yA rfl rfl ?_
 refine yN ?_
 dsimp only [St.put]
 refine K3 _ ?_
 refine yS fun _ K4 => ?_
 refine yR ?_
 refine yM rfl rfl ?_
 refine aa rfl (fm rfl rfl rfl) ?_
 refine yN ?_
 dsimp only [St.put]
 refine K4 _ ?_
 refine ar rfl (fun hc => ?_) (fun hc => ?_)
 ·have ht : c6 p.text = false := by
   have h0 := jm hc
   unfold iq at h0
   cases h1 : c6 p.text
   ·rfl
   rw [h1] at h0; exact absurd rfl h0
  have hE : ce p = 10 := ul1 ht
  have hR : iq p.text = 10 := by simp [iq, ht]
  refine yS fun _ K5 => ?_
  refine yR ?_
  refine yM rfl rfl ?_
  refine yA rfl rfl ?_
  refine yA rfl rfl ?_
  refine yN ?_
  dsimp only [St.put]
  refine K5 _ ?_
  refine aq ?_
  refine jq rfl (by constructor) (by constructor) zN zS ?_ ?_
  ·rw [se (by rw [hE]; decide)]
  rw [hE, hR]
 have ht : c6 p.text = true := by
  have h0 := gp hc
  unfold iq at h0
  cases h1 : c6 p.text
  ·rw [h1] at h0; cases h0
  rfl
 obtain ⟨hl1, hl2, hl3⟩ := kz ht
 have hll : lv p.text ≤ 60 := uc ht _ (Nat.le_refl _)
 refine ax ?_
 refine K2 _ ?_
 refine yS fun _ K6 => ?_
 refine yR ?_
 refine yF rfl rfl rfl rfl ?_
 try dsimp only [St.put]
 refine bq rfl (c := ir p.text) (jj (cs := cells p) rfl rfl (show 1 ≤ 4 by decide)) ?_
 try dsimp only [St.put]
 refine ae rfl (ay rfl rfl rfl (uik p.text ht) ?_)
 refine yM rfl rfl ?_
 refine yX rfl rfl rfl rfl ?_
 refine yX rfl rfl rfl rfl ?_
 refine yA rfl rfl ?_
 refine yA rfl rfl ?_
 refine yN ?_
 dsimp only [St.put]
 refine K6 _ ?_
 refine yS fun _ K7 => ?_
 refine yR ?_
 try dsimp only [St.put]
 refine ae rfl (yp (α := Int) rfl ?_)
 refine yA rfl rfl ?_
 refine yN ?_
 dsimp only [St.put]
 refine K7 _ ?_
 refine yS fun _ K8 => ?_
 refine yS fun _ K9 => ?_
 refine yR ?_
 try dsimp only [St.put]
 refine bq rfl (mh (n := 6) (m := n) rfl rfl zG rfl) ?_
 refine yM rfl rfl ?_
 refine yN ?_
 dsimp only [St.put]
 refine K9 _ ?_
 refine bh ?_
 refine ck 38 ?_
 refine zQ ?_
 refine dd (ak G nx (gx Tryd.prog 3 0 fun _ => none)) zX ?_
 dsimp only
 refine dc (X := Nat) (fun k => k ≤ 2 ∧ okR (f5 p k) ∧ ((0 < k → p.firsts.length ≤ 3) ∧ (1 < k → p.seconds.length ≤ 3))) (fun k => 2 - k) (fun k => [(9, .any), (11, .any), (37, .v (.int .i64 (k : Int)))]) (fun k G' => (ak G (nx) (gx Tryd.prog 3 (((f5 p k).length)) (gu (((f5 p k)).map (·.id)))))) 0 rfl ?_ ?_ ?_ ?_ ?_ ?_
 ·exact ⟨by omega, ⟨rfl, List.nodup_nil⟩, fun h => absurd h (Nat.lt_irrefl _), fun h => by omega⟩
 ·exact zF
 ·rw [show gu ((f5 p 0).map (·.id)) = fun _ => none from ucq]
  exact zX
 ·rintro k hI
  exact (by (try dsimp only); repeat' (first | exact trivial | refine ⟨?_, ?_⟩ | exact .v | exact .any | refine .elem ?_ | exact bj _ _ | exact et _ _ | exact dv _ _ | exact ey _ (by (try dsimp only); omega) | exact .box (by (try dsimp only); omega) | exact el | exact cv | exact gw (je _ _) | refine fb ?_ ?_ | exact .arr (by (try dsimp only); omega) | exact .own (by (try dsimp only); omega) | exact .map (by (try dsimp only); omega) | exact d8 _ | refine bv ?_ ?_ | exact bj _ _))
 ·rintro k hI
  exact (by (repeat' (refine ki ?_ (by (try dsimp only); omega) ?_)); all_goals (first | exact kj zS | (repeat' (first | exact trivial | refine ⟨?_, ?_⟩ | exact .v | exact .any | refine .elem ?_ | exact bj _ _ | exact et _ _ | exact dv _ _ | exact ey _ (by (try dsimp only); omega) | exact .box (by (try dsimp only); omega) | exact el | exact cv | exact gw (je _ _) | refine fb ?_ ?_ | exact .arr (by (try dsimp only); omega) | exact .own (by (try dsimp only); omega) | exact .map (by (try dsimp only); omega) | exact d8 _ | refine bv ?_ ?_ | exact bj _ _))))
 rintro k hI
 dsimp only at hI ⊢
 refine yS fun _ K10 => ?_
 refine yR ?_
 refine aa rfl (ci rfl rfl rfl) ?_
 refine yN ?_
 dsimp only [St.put]
 refine K10 _ ?_
 refine yS fun _ K11 => ?_
 refine ar rfl (fun hc => ?_) (fun hc => ?_)
 ·replace hc := of_decide_eq_true hc
  have hk : k < 2 := by omega
  refine ax ?_
  refine K11 _ ?_
  refine yS fun _ K12 => ?_
  refine bh ?_
  refine yS fun _ K13 => ?_
  refine yR ?_
  refine aa rfl (uy (k := k) (m := 2) (sz := 3) rfl rfl rfl rfl hk (ug hk)) ?_
  try dsimp only [St.put]
  refine ae rfl (dm rfl ?_)
  try dsimp only [St.put]
  refine ae rfl (cp rfl rfl rfl zG rfl rfl (by rfl) ?_)
  refine yN ?_
  dsimp only [St.put]
  refine K13 _ ?_
  refine fw (i := 9) rfl zG zC ?_
  dsimp only
  refine yS fun _ K14 => ?_
  refine yS fun _ K15 => ?_
  refine yR ?_
  refine yF rfl rfl rfl rfl ?_
  refine yL rfl rfl rfl ?_
  refine yE rfl rfl rfl ?_
  try dsimp only [St.put]
  refine ae rfl (ay rfl rfl rfl (n2 (decide (k = 1)) p) ?_)
  refine aa rfl (bf rfl rfl (List.length_map _)) ?_
  refine aa rfl (gr rfl rfl rfl) ?_
  refine yN ?_
  dsimp only [St.put]
  refine K15 _ ?_
  refine ar rfl (fun hc => ?_) (fun hc => ?_)
  ·have hs3 : ¬ (da p (decide (k = 1))).length ≤ 3 := by
    have := of_decide_eq_true hc
    omega
   have hE : ce p = 90 := vv ht (ujv hs3)
   refine yS fun _ K16 => ?_
   refine yR ?_
   refine yA rfl rfl ?_
   refine yA rfl rfl ?_
   refine yN ?_
   dsimp only [St.put]
   refine K16 _ ?_
   refine aq ?_
   refine jq rfl (by constructor) (by constructor) zN zS ?_ ?_
   ·rw [se (by rw [hE]; decide)]
   rw [hE]
  have hs3 : (da p (decide (k = 1))).length ≤ 3 := by
   have := of_decide_eq_false hc
   omega
  refine ax ?_
  refine K14 _ ?_
  refine yS fun _ K17 => ?_
  refine yR ?_
  refine yF rfl rfl rfl rfl ?_
  refine yL rfl rfl rfl ?_
  refine yE rfl rfl rfl ?_
  try dsimp only [St.put]
  refine ae rfl (ay rfl rfl rfl (n2 (decide (k = 1)) p) ?_)
  refine aa rfl (bf rfl rfl (List.length_map _)) ?_
  refine yM rfl rfl ?_
  refine yN ?_
  dsimp only [St.put]
  rw [show gu ((f5 p k).map (·.id)) = gu ((f5 p k ++ (da p (decide (k = 1))).take 0).map (·.id)) by simp]
  refine K17 _ ?_
  refine bh ?_
  refine ck 52 ?_
  refine zQ ?_
  refine dd ((ak G (nx) (gx Tryd.prog 3 (((f5 p k).length)) (gu (((f5 p k ++ (da p (decide (k = 1))).take 0)).map (·.id)))))) zX ?_
  dsimp only
  refine dc (X := Nat) (fun i => i ≤ (da p (decide (k = 1))).length ∧ okR (f5 p k ++ (da p (decide (k = 1))).take i)) (fun i => (da p (decide (k = 1))).length - i) (fun i => [(11, .any), (51, .v (.int .i64 (i : Int)))]) (fun i G' => (ak G (nx) (gx Tryd.prog 3 (((f5 p k ++ (da p (decide (k = 1))).take i).length)) (gu (((f5 p k ++ (da p (decide (k = 1))).take i)).map (·.id)))))) 0 rfl ?_ ?_ ?_ ?_ ?_ ?_
  ·exact ⟨Nat.zero_le _, by simpa using hI.2.1⟩
  ·exact zF
  ·rw [show (f5 p k ++ (da p (decide (k = 1))).take 0).length = (f5 p k).length by simp]
   exact zX
  ·rintro i hI
   exact (by (try dsimp only); repeat' (first | exact trivial | refine ⟨?_, ?_⟩ | exact .v | exact .any | refine .elem ?_ | exact bj _ _ | exact et _ _ | exact dv _ _ | exact ey _ (by (try dsimp only); omega) | exact .box (by (try dsimp only); omega) | exact el | exact cv | exact gw (je _ _) | refine fb ?_ ?_ | exact .arr (by (try dsimp only); omega) | exact .own (by (try dsimp only); omega) | exact .map (by (try dsimp only); omega) | exact d8 _ | refine bv ?_ ?_ | exact bj _ _))
  ·rintro i hI
   exact (by (repeat' (refine ki ?_ (by (try dsimp only); omega) ?_)); all_goals (first | exact kj zS | (repeat' (first | exact trivial | refine ⟨?_, ?_⟩ | exact .v | exact .any | refine .elem ?_ | exact bj _ _ | exact et _ _ | exact dv _ _ | exact ey _ (by (try dsimp only); omega) | exact .box (by (try dsimp only); omega) | exact el | exact cv | exact gw (je _ _) | refine fb ?_ ?_ | exact .arr (by (try dsimp only); omega) | exact .own (by (try dsimp only); omega) | exact .map (by (try dsimp only); omega) | exact d8 _ | refine bv ?_ ?_ | exact bj _ _))))
  rintro i hJ
  dsimp only at hJ ⊢
  refine yS fun _ K18 => ?_
  refine yR ?_
  refine aa rfl (ci rfl rfl rfl) ?_
  refine yN ?_
  dsimp only [St.put]
  refine K18 _ ?_
  refine yS fun _ K19 => ?_
  refine ar rfl (fun hc => ?_) (fun hc => ?_)
  ·replace hc := of_decide_eq_true hc
   obtain ⟨r, hr⟩ : ∃ r, (da p (decide (k = 1)))[i]? = some r := dj (by omega)
   obtain ⟨L, hL⟩ : ∃ L, f5 p k ++ (da p (decide (k = 1))).take i = L := ⟨_, rfl⟩
   refine ax ?_
   refine K19 _ ?_
   refine yS fun _ K20 => ?_
   refine bh ?_
   refine yS fun _ K21 => ?_
   refine yR ?_
   refine aa rfl (bu rfl rfl rfl rfl (bp (by assumption)) (Enc.len _)) ?_
   refine yE rfl rfl rfl ?_
   try dsimp only [St.put]
   refine ae rfl (dm rfl ?_)
   try dsimp only [St.put]
   refine ae rfl (cp rfl rfl rfl zG rfl rfl (by rfl) ?_)
   refine yN ?_
   dsimp only [St.put]
   refine K21 _ ?_
   refine fw (i := 11) rfl zG zC ?_
   dsimp only
   refine yS fun _ K22 => ?_
   refine ck 52 ?_
   refine zQ ?_
   refine ku (X := Bool) (fun d => d = !(f3 r && !decide (r.id ∈ (f5 p k ++ (da p (decide (k = 1))).take i).map (·.id)))) (fun d => [(72, .v (.bool d))]) (fun d G' => G') rfl ?_ (fun _ _ _ _ h => .inl h) ?_ ?_
   ·rintro d hI
    exact (by (try dsimp only); repeat' (first | exact trivial | refine ⟨?_, ?_⟩ | exact .v | exact .any | refine .elem ?_ | exact bj _ _ | exact et _ _ | exact dv _ _ | exact ey _ (by (try dsimp only); omega) | exact .box (by (try dsimp only); omega) | exact el | exact cv | exact gw (je _ _) | refine fb ?_ ?_ | exact .arr (by (try dsimp only); omega) | exact .own (by (try dsimp only); omega) | exact .map (by (try dsimp only); omega) | exact d8 _ | refine bv ?_ ?_ | exact bj _ _))
   ·refine yR ?_
    refine yF rfl rfl rfl rfl ?_
    refine yL rfl rfl rfl ?_
    try dsimp only [St.put]
    refine ae rfl (dl rfl rfl rfl (by decide) (by decide) zR (by decide) ?_)
    try dsimp only [St.put]
    refine ae rfl (ay rfl rfl rfl (mj _ _ [_]) ?_)
    refine aa rfl (dp rfl rfl) ?_
    refine yM rfl rfl ?_
    refine ef (fun hs => ?_) (fun hs => ?_)
    ·have h5 : inB r.id 0 9999 = false := by rw [fq] at hs; simpa using hs
     refine yK rfl ?_
     refine yK rfl ?_
     refine yK rfl ?_
     refine yK rfl ?_
     refine aa rfl (bk rfl rfl (by constructor)) ?_
     refine yM rfl rfl ?_
     refine yK rfl ?_
     refine yK rfl ?_
     refine yK rfl ?_
     refine yK rfl ?_
     refine yK rfl ?_
     refine aa rfl (bk rfl rfl (by constructor)) ?_
     refine yN ?_
     dsimp only [St.put]
     refine ⟨_, ?_, ⟨⟨rfl, rfl⟩, zF, zB, zN, zX⟩⟩
     unfold f3
     first
     | (rw [h5]; simp; done)
     | (rw [decide_eq_true h11]; simp; done)
     | (rw [h5, decide_eq_false h11, fq]; simp)
    have h5 : inB r.id 0 9999 = true := by rw [fq] at hs; simpa using hs
    refine yM rfl rfl ?_
    refine yF rfl rfl rfl rfl ?_
    refine yL rfl rfl rfl ?_
    try dsimp only [St.put]
    refine bq rfl (uj r.id rfl rfl zG trivial rfl (ucr _ _)) ?_
    refine aa rfl (cg rfl rfl (by constructor)) ?_
    refine yM rfl rfl ?_
    refine ef (fun hs => ?_) (fun hs => ?_)
    ·have h11 := of_decide_eq_true hs
     refine yK rfl ?_
     refine yK rfl ?_
     refine yK rfl ?_
     refine yK rfl ?_
     refine yK rfl ?_
     refine aa rfl (bk rfl rfl (by constructor)) ?_
     refine yN ?_
     dsimp only [St.put]
     refine ⟨_, ?_, ⟨⟨rfl, rfl⟩, zF, zB, zN, zX⟩⟩
     unfold f3
     first
     | (rw [h5]; simp; done)
     | (rw [decide_eq_true h11]; simp; done)
     | (rw [h5, decide_eq_false h11, fq]; simp)
    have h11 := of_decide_eq_false hs
    refine yF rfl rfl rfl rfl ?_
    refine yL rfl rfl rfl ?_
    try dsimp only [St.put]
    refine ae rfl (dl rfl rfl rfl (by decide) (by decide) zR (by decide) ?_)
    try dsimp only [St.put]
    refine ae rfl (ay rfl rfl rfl (mj _ _ [_]) ?_)
    refine aa rfl (dp rfl rfl) ?_
    refine aa rfl (cg rfl rfl (by constructor)) ?_
    refine yN ?_
    dsimp only [St.put]
    refine ⟨_, ?_, ⟨⟨rfl, rfl⟩, zF, zB, zN, zX⟩⟩
    unfold f3
    first
    | (rw [h5]; simp; done)
    | (rw [decide_eq_true h11]; simp; done)
    | (rw [h5, decide_eq_false h11, fq]; simp)
   rintro d hst
   dsimp only at hst ⊢
   refine ar rfl (fun hc => ?_) (fun hc => ?_)
   ·have hbad : f3 r = false ∨ r.id ∈ (f5 p k ++ (da p (decide (k = 1))).take i).map (·.id) := by
     rw [hc] at hst
     cases h1 : f3 r
     ·exact .inl rfl
     rw [h1] at hst
     right
     exact Classical.byContradiction fun h2 => by rw [decide_eq_false h2] at hst; cases hst
    have hE : ce p = 90 := vv ht (uhs hk hr hbad)
    refine yS fun _ K24 => ?_
    refine yR ?_
    refine yA rfl rfl ?_
    refine yA rfl rfl ?_
    refine yN ?_
    dsimp only [St.put]
    refine K24 _ ?_
    refine aq ?_
    refine jq rfl (by constructor) (by constructor) zN zS ?_ ?_
    ·rw [se (by rw [hE]; decide)]
    rw [hE]
   have hgood : f3 r = true ∧ r.id ∉ (f5 p k ++ (da p (decide (k = 1))).take i).map (·.id) := by
    rw [hc] at hst
    cases h1 : f3 r
    ·rw [h1] at hst; cases hst
    rw [h1] at hst
    exact ⟨rfl, fun h2 => by rw [decide_eq_true h2] at hst; cases hst⟩
   refine ax ?_
   refine K22 _ ?_
   refine yR ?_
   refine yM rfl rfl ?_
   refine yF rfl rfl rfl rfl ?_
   refine yL rfl rfl rfl ?_
   try dsimp only [St.put]
   refine ae rfl (th (r.id) rfl rfl rfl zG rfl ((show jp (gu ((f5 p k ++ (da p (decide (k = 1))).take i).map (·.id))) r.id (.v (.bool true)) = gu ((f5 p k ++ (da p (decide (k = 1))).take (i + 1)).map (·.id)) from by rw [wu hr, ← List.append_assoc]; exact ukn r)) ?_)
   refine yN ?_
   dsimp only [St.put]
   refine K20 _ ?_
   refine yR ?_
   refine aa rfl (ca rfl rfl rfl (by omega)) ?_
   refine yM rfl rfl ?_
   refine yN ?_
   dsimp only [St.put]
   rw [show (f5 p k ++ (da p (decide (k = 1))).take i).length + 1 = (f5 p k ++ (da p (decide (k = 1))).take (i + 1)).length by rw [wu hr, ← List.append_assoc, List.length_append (bs := [r])]; rfl]
   exact ⟨i + 1, by omega, ⟨by omega, by rw [wu hr, ← List.append_assoc]; exact ui1 hJ.2 hgood.1 hgood.2⟩, ⟨⟨rfl, rfl⟩, zF, zB, zN, zX⟩⟩
  replace hc := of_decide_eq_false hc
  refine c5 ?_
  refine K12 _ ?_
  refine yR ?_
  refine aa rfl (ca rfl rfl rfl (by omega)) ?_
  refine yM rfl rfl ?_
  refine yN ?_
  dsimp only [St.put]
  rw [show f5 p k ++ (da p (decide (k = 1))).take i = f5 p (k + 1) by rw [ug2 hk, gg (by omega)]] at hJ ⊢
  exact ⟨k + 1, by omega, ⟨by omega, hJ.2, by
   have h3 := hI.2.2
   by_cases e : k = 0
   ·subst e; exact ⟨fun _ => hs3, fun h => by omega⟩
   have e1 : k = 1 := by omega
   subst e1; exact ⟨fun _ => h3.1 (by omega), fun _ => hs3⟩⟩, ⟨⟨rfl, rfl⟩, zF, zB, zN, zX⟩⟩
 replace hc := of_decide_eq_false hc
 obtain rfl : k = 2 := by omega
 have hRB : jc p = true := by
  unfold jc
  have h2 := hI.2.1
  have h3 := hI.2.2
  rw [decide_eq_true (h3.1 (by omega)), decide_eq_true (h3.2 (by omega)), show (p.firsts ++ p.seconds).all f3 = true from h2.1, decide_eq_true (show ((p.firsts ++ p.seconds).map (·.id)).Nodup from h2.2)]; rfl
 have hn1 : p.firsts.length ≤ 3 := hI.2.2.1 (by omega)
 have hn2 : p.seconds.length ≤ 3 := hI.2.2.2 (by omega)
 have hsl : ∀ b, (da p b).length ≤ 3 := fun b => by cases b; exact hn1; exact hn2
 refine c5 ?_
 refine K8 _ ?_
 refine yS fun _ K25 => ?_
 refine yS fun _ K26 => ?_
 refine yR ?_
 refine yF rfl rfl rfl rfl ?_
 refine yL rfl rfl rfl ?_
 refine aa rfl (bf rfl rfl (List.length_map _)) ?_
 refine aa rfl (gr rfl rfl rfl) ?_
 refine yN ?_
 dsimp only [St.put]
 refine K26 _ ?_
 refine ar rfl (fun hc => ?_) (fun hc => ?_)
 ·have hnp : ¬ p.pages.length ≤ 8 := by
   have := of_decide_eq_true hc
   omega
  have hE : ce p = 90 := vv ht (uh5 hnp)
  refine yS fun _ K27 => ?_
  refine yR ?_
  refine yA rfl rfl ?_
  refine yA rfl rfl ?_
  refine yN ?_
  dsimp only [St.put]
  refine K27 _ ?_
  refine aq ?_
  refine jq rfl (by constructor) (by constructor) zN zS ?_ ?_
  ·rw [se (by rw [hE]; decide)]
  rw [hE]
 have hnp : p.pages.length ≤ 8 := by
  have := of_decide_eq_false hc
  omega
 refine ax ?_
 refine K25 _ ?_
 refine yS fun _ K28 => ?_
 refine yR ?_
 refine yE rfl rfl rfl ?_
 refine aa rfl (gt rfl rfl) ?_
 try dsimp only [St.put]
 refine ae rfl (yr rfl rfl ?_)
 refine yA rfl rfl ?_
 refine yN ?_
 dsimp only [St.put]
 refine K28 _ ?_
 refine qv (nx + 1) 4 _ _ 3 1 zG rfl (by decide) ?_
 refine qv (nx + 1) 5 _ _ 36 1 zG rfl (by decide) ?_
 refine qv (nx + 1) 6 _ _ 36 1 zG rfl (by decide) ?_
 dsimp only [List.set_cons_zero, List.set_cons_succ]
 refine yS fun _ K29 => ?_
 refine yR ?_
 refine yA rfl rfl ?_
 refine yN ?_
 dsimp only [St.put]
 refine K29 _ ?_
 refine yS fun _ K30 => ?_
 refine yR ?_
 refine yA rfl rfl ?_
 refine yN ?_
 dsimp only [St.put]
 refine K30 _ ?_
 refine yS fun _ K31 => ?_
 refine uek ?_
 refine K31 _ ?_
 refine yS fun _ K32 => ?_
 refine yS fun _ K33 => ?_
 refine yR ?_
 refine yF rfl rfl rfl rfl ?_
 refine yL rfl rfl rfl ?_
 refine aa rfl (bf rfl rfl (List.length_map _)) ?_
 refine yM rfl rfl ?_
 refine yN ?_
 dsimp only [St.put]
 refine K33 _ ?_
 refine bh ?_
 refine ck 89 ?_
 refine zQ ?_
 refine dd ((ak (ak (ak (ak G (nx + 1) (.box (0 + 0 + 0) [lst p.text, lst p.firsts, lst p.seconds, lst p.pages, .list (((p.pages.take 0).map fun x => (er p.text x : Int)).map cells) (.tip (nx + 1 + 1)), .list (((p.pages.take 0).map (dn p.text)).map cells) (.tip (nx + 1 + 1 + 1)), .list (((p.pages.take 0).map (cj p.text)).map cells) (.tip (nx + 1 + 1 + 1 + 1))])) (nx + 1 + 1) (.tip ((p.pages.take 0).map fun x => (er p.text x : Int)).length 3 1)) (nx + 1 + 1 + 1) (.tip ((p.pages.take 0).map (dn p.text)).length 36 1)) (nx + 1 + 1 + 1 + 1) (.tip ((p.pages.take 0).map (cj p.text)).length 36 1))) zX ?_
 dsimp only
 refine dc (X := Nat) (fun j => j ≤ p.pages.length ∧ o9 p j = true) (fun j => p.pages.length - j) (fun j => [(13, .v (.int .i64 (gk p.pages j))), (16, .any), (18, .any), (19, .any), (20, .any), (21, .any), (22, .any), (88, .v (.int .i64 (j : Int)))]) (fun j G' => (ak (ak (ak (ak G (nx + 1) (.box (j + j + j) [lst p.text, lst p.firsts, lst p.seconds, lst p.pages, .list (((p.pages.take j).map fun x => (er p.text x : Int)).map cells) (.tip (nx + 1 + 1)), .list (((p.pages.take j).map (dn p.text)).map cells) (.tip (nx + 1 + 1 + 1)), .list (((p.pages.take j).map (cj p.text)).map cells) (.tip (nx + 1 + 1 + 1 + 1))])) (nx + 1 + 1) (.tip ((p.pages.take j).map fun x => (er p.text x : Int)).length 3 1)) (nx + 1 + 1 + 1) (.tip ((p.pages.take j).map (dn p.text)).length 36 1)) (nx + 1 + 1 + 1 + 1) (.tip ((p.pages.take j).map (cj p.text)).length 36 1))) 0 rfl ?_ ?_ ?_ ?_ ?_ ?_
 ·exact ⟨Nat.zero_le _, rfl⟩
 ·exact zF
 ·exact zX
 ·rintro j hI
  exact (by (try dsimp only); repeat' (first | exact trivial | refine ⟨?_, ?_⟩ | exact .v | exact .any | refine .elem ?_ | exact bj _ _ | exact et _ _ | exact dv _ _ | exact ey _ (by (try dsimp only); omega) | exact .box (by (try dsimp only); omega) | exact el | exact cv | exact gw (je _ _) | refine fb ?_ ?_ | exact .arr (by (try dsimp only); omega) | exact .own (by (try dsimp only); omega) | exact .map (by (try dsimp only); omega) | exact d8 _ | refine bv ?_ ?_ | exact bj _ _))
 ·rintro j hI
  exact (by (repeat' (refine ki ?_ (by (try dsimp only); omega) ?_)); all_goals (first | exact kj zS | (repeat' (first | exact trivial | refine ⟨?_, ?_⟩ | exact .v | exact .any | refine .elem ?_ | exact bj _ _ | exact et _ _ | exact dv _ _ | exact ey _ (by (try dsimp only); omega) | exact .box (by (try dsimp only); omega) | exact el | exact cv | exact gw (je _ _) | refine fb ?_ ?_ | exact .arr (by (try dsimp only); omega) | exact .own (by (try dsimp only); omega) | exact .map (by (try dsimp only); omega) | exact d8 _ | refine bv ?_ ?_ | exact bj _ _))))
 rintro j hK
 dsimp only at hK ⊢
 refine yS fun _ K34 => ?_
 refine yR ?_
 refine aa rfl (ci rfl rfl rfl) ?_
 refine yN ?_
 dsimp only [St.put]
 refine K34 _ ?_
 refine yS fun _ K35 => ?_
 refine ar rfl (fun hc => ?_) (fun hc => ?_)
 ·replace hc := of_decide_eq_true hc
  obtain ⟨x, hx⟩ : ∃ x, p.pages[j]? = some x := dj (by omega)
  refine ax ?_
  refine K35 _ ?_
  refine yS fun _ K36 => ?_
  refine bh ?_
  refine yS fun _ K37 => ?_
  refine yR ?_
  refine aa rfl (bu rfl rfl rfl rfl (bp (by assumption)) (Enc.len _)) ?_
  refine yE rfl rfl rfl ?_
  try dsimp only [St.put]
  refine ae rfl (dm rfl ?_)
  try dsimp only [St.put]
  refine ae rfl (cp rfl rfl rfl zG rfl rfl (by rfl) ?_)
  refine yN ?_
  dsimp only [St.put]
  refine K37 _ ?_
  refine fw (i := 16) rfl zG zC ?_
  dsimp only
  refine ck 89 ?_
  refine zQ ?_
  refine ku (X := Bool) (fun d0 => d0 = o8 p (gk p.pages j) x) (fun d0 => [(14, .v (.bool d0))]) (fun d0 G' => G') rfl ?_ (fun _ _ _ _ h => .inl h) ?_ ?_
  ·rintro d0 hI
   exact (by (try dsimp only); repeat' (first | exact trivial | refine ⟨?_, ?_⟩ | exact .v | exact .any | refine .elem ?_ | exact bj _ _ | exact et _ _ | exact dv _ _ | exact ey _ (by (try dsimp only); omega) | exact .box (by (try dsimp only); omega) | exact el | exact cv | exact gw (je _ _) | refine fb ?_ ?_ | exact .arr (by (try dsimp only); omega) | exact .own (by (try dsimp only); omega) | exact .map (by (try dsimp only); omega) | exact d8 _ | refine bv ?_ ?_ | exact bj _ _))
  ·refine yR ?_
   refine yF rfl rfl rfl rfl ?_
   refine yL rfl rfl rfl ?_
   refine yM rfl rfl ?_
   refine aa rfl (gr rfl rfl rfl) ?_
   refine yM rfl rfl ?_
   refine ef (fun hs => ?_) (fun hs => ?_)
   ·have z1 : gk p.pages j < x.fr := of_decide_eq_true hs
    refine yF rfl rfl rfl rfl ?_
    refine yL rfl rfl rfl ?_
    refine yF rfl rfl rfl rfl ?_
    refine yL rfl rfl rfl ?_
    refine aa rfl (pd rfl rfl rfl) ?_
    refine aa rfl (bk rfl rfl (by constructor)) ?_
    refine yM rfl rfl ?_
    refine ef (fun hs => ?_) (fun hs => ?_)
    ·have z2 : x.fr ≤ x.to := of_decide_eq_true hs
     refine yF rfl rfl rfl rfl ?_
     refine yL rfl rfl rfl ?_
     refine yM rfl rfl ?_
     refine aa rfl (ci rfl rfl rfl) ?_
     refine aa rfl (bk rfl rfl (by constructor)) ?_
     refine yA rfl rfl ?_
     refine yN ?_
     dsimp only [St.put]
     refine ⟨_, ?_, ⟨⟨rfl, rfl⟩, zF, zB, zN, zX⟩⟩
     unfold o8
     first
     | (simp [z1]; done)
     | (simp [z1, z2]; done)
     | (simp [z1]; omega)
    have z2 : ¬ x.fr ≤ x.to := of_decide_eq_false hs
    refine yK rfl ?_
    refine yK rfl ?_
    refine yK rfl ?_
    refine yK rfl ?_
    refine aa rfl (cg rfl rfl (by constructor)) ?_
    refine yA rfl rfl ?_
    refine yN ?_
    dsimp only [St.put]
    refine ⟨_, ?_, ⟨⟨rfl, rfl⟩, zF, zB, zN, zX⟩⟩
    unfold o8
    first
    | (simp [z1]; done)
    | (simp [z1, z2]; done)
    | (simp [z1]; omega)
   have z1 : ¬ gk p.pages j < x.fr := of_decide_eq_false hs
   refine yK rfl ?_
   refine yK rfl ?_
   refine yK rfl ?_
   refine yK rfl ?_
   refine yK rfl ?_
   refine aa rfl (cg rfl rfl (by constructor)) ?_
   refine yM rfl rfl ?_
   refine yK rfl ?_
   refine yK rfl ?_
   refine yK rfl ?_
   refine yK rfl ?_
   refine aa rfl (cg rfl rfl (by constructor)) ?_
   refine yA rfl rfl ?_
   refine yN ?_
   dsimp only [St.put]
   refine ⟨_, ?_, ⟨⟨rfl, rfl⟩, zF, zB, zN, zX⟩⟩
   unfold o8
   first
   | (simp [z1]; done)
   | (simp [z1, z2]; done)
   | (simp [z1]; omega)
  rintro d0 hst0
  dsimp only at hst0 ⊢
  subst hst0
  refine yS fun _ K39 => ?_
  refine yS fun _ K40 => ?_
  refine yR ?_
  try dsimp only [St.put]
  refine bq rfl (mh (n := 6) (m := n) rfl rfl zG rfl) ?_
  refine yM rfl rfl ?_
  refine yN ?_
  dsimp only [St.put]
  refine K40 _ ?_
  refine bh ?_
  refine ck 111 ?_
  refine zQ ?_
  refine dd ((ak (ak (ak (ak G (nx + 1) (.box (j + j + j) [lst p.text, lst p.firsts, lst p.seconds, lst p.pages, .list (((p.pages.take j).map fun x => (er p.text x : Int)).map cells) (.tip (nx + 1 + 1)), .list (((p.pages.take j).map (dn p.text)).map cells) (.tip (nx + 1 + 1 + 1)), .list (((p.pages.take j).map (cj p.text)).map cells) (.tip (nx + 1 + 1 + 1 + 1))])) (nx + 1 + 1) (.tip ((p.pages.take j).map fun x => (er p.text x : Int)).length 3 1)) (nx + 1 + 1 + 1) (.tip ((p.pages.take j).map (dn p.text)).length 36 1)) (nx + 1 + 1 + 1 + 1) (.tip ((p.pages.take j).map (cj p.text)).length 36 1))) zX ?_
  dsimp only
  refine dc (X := Nat) (fun k => k ≤ 2) (fun k => 2 - k) (fun k => [(14, .v (.bool (n1 p (gk p.pages j) x k))), (18, .any), (19, .any), (20, .any), (21, .any), (22, .any), (110, .v (.int .i64 (k : Int)))]) (fun k G' => G') 0 rfl ?_ ?_ (fun _ _ h => h) ?_ ?_ ?_
  ·exact Nat.zero_le _
  ·exact zF
  ·rintro k hI
   exact (by (try dsimp only); repeat' (first | exact trivial | refine ⟨?_, ?_⟩ | exact .v | exact .any | refine .elem ?_ | exact bj _ _ | exact et _ _ | exact dv _ _ | exact ey _ (by (try dsimp only); omega) | exact .box (by (try dsimp only); omega) | exact el | exact cv | exact gw (je _ _) | refine fb ?_ ?_ | exact .arr (by (try dsimp only); omega) | exact .own (by (try dsimp only); omega) | exact .map (by (try dsimp only); omega) | exact d8 _ | refine bv ?_ ?_ | exact bj _ _))
  ·exact fun _ _ _ _ h => .inl h
  rintro k hS
  dsimp only at hS ⊢
  refine yS fun _ K41 => ?_
  refine yR ?_
  refine aa rfl (ci rfl rfl rfl) ?_
  refine yN ?_
  dsimp only [St.put]
  refine K41 _ ?_
  refine yS fun _ K42 => ?_
  refine ar rfl (fun hc => ?_) (fun hc => ?_)
  ·replace hc := of_decide_eq_true hc
   have hk2 : k < 2 := by omega
   have hslk := hsl (decide (k = 1))
   refine ax ?_
   refine K42 _ ?_
   refine yS fun _ K43 => ?_
   refine bh ?_
   refine yS fun _ K44 => ?_
   refine yR ?_
   refine aa rfl (uy (k := k) (m := 2) (sz := 3) rfl rfl rfl rfl hk2 (ug hk2)) ?_
   try dsimp only [St.put]
   refine ae rfl (dm rfl ?_)
   try dsimp only [St.put]
   refine ae rfl (cp rfl rfl rfl zG rfl rfl (by rfl) ?_)
   refine yN ?_
   dsimp only [St.put]
   refine K44 _ ?_
   refine fw (i := 18) rfl zG zC ?_
   dsimp only
   refine ck 111 ?_
   refine zQ ?_
   refine ku (X := Unit) (fun _ => True) (fun _ => [(19, .v (.int .i64 (eo (decide (k = 1)) x))), (20, lst (cr (decide (k = 1)) x))]) (fun _ G' => G') rfl ?_ (fun _ _ _ _ h => .inl h) ?_ ?_
   ·rintro _ hI
    exact (by (try dsimp only); repeat' (first | exact trivial | refine ⟨?_, ?_⟩ | exact .v | exact .any | refine .elem ?_ | exact bj _ _ | exact et _ _ | exact dv _ _ | exact ey _ (by (try dsimp only); omega) | exact .box (by (try dsimp only); omega) | exact el | exact cv | exact gw (je _ _) | refine fb ?_ ?_ | exact .arr (by (try dsimp only); omega) | exact .own (by (try dsimp only); omega) | exact .map (by (try dsimp only); omega) | exact d8 _ | refine bv ?_ ?_ | exact bj _ _))
   ·refine gn [(0, none), (1, none), (2, none), (4, none), (5, none), (6, none), (3, none), (7, none), (8, none), (9, none)] (fun i => [7].contains i) (fun i => [3, 7].contains i) (fun i => [0, 4, 8, 9].contains i) [] (by kernel_rfl) (by kernel_rfl) ?_
    refine af rfl rfl rfl rfl (bx rfl rfl rfl) ?_
    try dsimp only [St.put]
    refine aw rfl rfl rfl rfl (bn rfl rfl) ?_
    try dsimp only [St.put]
    refine aw rfl rfl rfl rfl (d9 rfl rfl (Enc.len _)) ?_
    refine af rfl rfl rfl rfl (bx rfl rfl rfl) ?_
    try dsimp only [St.put]
    refine aw rfl rfl rfl rfl (bn rfl rfl) ?_
    try dsimp only [St.put]
    refine aw rfl rfl rfl rfl (d9 rfl rfl (Enc.len _)) ?_
    refine ji ?_
    try dsimp only [St.put]
    refine j7 rfl rfl rfl (ay rfl rfl rfl (w9 (decide (k = 1)) x) ⟨zD, ?_⟩)
    try dsimp only [St.put]
    refine ij rfl rfl rfl rfl (ay rfl rfl rfl (uai (decide (k = 1)) x) ?_)
    refine d7 rfl rfl rfl rfl (fe rfl (by constructor)) ?_
    refine d7 rfl rfl rfl rfl (fe rfl (by constructor)) ?_
    refine jh ?_
    dsimp only [St.put]
    exact ⟨(), trivial, ⟨⟨rfl, rfl⟩, zF, zB, zN, zX⟩⟩
   rintro _ h31
   dsimp only at h31 ⊢
   refine ck 111 ?_
   refine zQ ?_
   refine ku (X := Bool) (fun d => d = (n1 p (gk p.pages j) x k && (inB (eo (decide (k = 1)) x) (-1) (((da p (decide (k = 1))).length : Int) - 1) && (decide (0 ≤ eo (decide (k = 1)) x) || decide (cr (decide (k = 1)) x = []))))) (fun d => [(14, .v (.bool d))]) (fun d G' => G') rfl ?_ (fun _ _ _ _ h => .inl h) ?_ ?_
   ·rintro d hI
    exact (by (try dsimp only); repeat' (first | exact trivial | refine ⟨?_, ?_⟩ | exact .v | exact .any | refine .elem ?_ | exact bj _ _ | exact et _ _ | exact dv _ _ | exact ey _ (by (try dsimp only); omega) | exact .box (by (try dsimp only); omega) | exact el | exact cv | exact gw (je _ _) | refine fb ?_ ?_ | exact .arr (by (try dsimp only); omega) | exact .own (by (try dsimp only); omega) | exact .map (by (try dsimp only); omega) | exact d8 _ | refine bv ?_ ?_ | exact bj _ _))
   ·refine yR ?_
    refine yM rfl rfl ?_
    refine yM rfl rfl ?_
    refine ef (fun hs => ?_) (fun hs => ?_)
    ·have s0 : n1 p (gk p.pages j) x k = true := hs
     refine yF rfl rfl rfl rfl ?_
     refine yL rfl rfl rfl ?_
     refine yE rfl rfl rfl ?_
     try dsimp only [St.put]
     refine ae rfl (ay rfl rfl rfl (n2 (decide (k = 1)) p) ?_)
     refine aa rfl (bf rfl rfl (List.length_map _)) ?_
     refine aa rfl (gq rfl rfl rfl (by omega)) ?_
     refine yM rfl rfl ?_
     try dsimp only [St.put]
     refine ae rfl (dl rfl rfl rfl (by decide) (by decide) zR (by decide) ?_)
     try dsimp only [St.put]
     refine ae rfl (ay rfl rfl rfl (mj _ _ [_]) ?_)
     refine aa rfl (bk rfl rfl (by constructor)) ?_
     refine yM rfl rfl ?_
     refine ef (fun hs => ?_) (fun hs => ?_)
     ·have s1 : inB (eo (decide (k = 1)) x) (-1) (((da p (decide (k = 1))).length : Int) - 1) = true := by rw [fq] at hs; exact hs
      refine yM rfl rfl ?_
      refine aa rfl (lp rfl rfl rfl) ?_
      refine yM rfl rfl ?_
      refine ef (fun hs => ?_) (fun hs => ?_)
      ·have s2 : 0 ≤ eo (decide (k = 1)) x := of_decide_eq_true hs
       refine yK rfl ?_
       refine yK rfl ?_
       refine yK rfl ?_
       refine aa rfl (bk rfl rfl (by constructor)) ?_
       refine aa rfl (bk rfl rfl (by constructor)) ?_
       refine yA rfl rfl ?_
       refine yN ?_
       dsimp only [St.put]
       refine ⟨_, ?_, ⟨⟨rfl, rfl⟩, zF, zB, zN, zX⟩⟩
       first
       | (rw [s0]; simp; done)
       | (rw [s0, s1]; simp; done)
       | (rw [s0, s1, decide_eq_true s2]; simp; done)
       | (rw [s0, s1, decide_eq_false s2, Bool.true_and, Bool.true_and, Bool.false_or, decide_eq_decide]; exact nil_len.symm)
      have s2 : ¬ 0 ≤ eo (decide (k = 1)) x := of_decide_eq_false hs
      refine yM rfl rfl ?_
      refine aa rfl (bf rfl rfl (List.length_map _)) ?_
      refine aa rfl (ec rfl rfl rfl) ?_
      refine aa rfl (cg rfl rfl (by constructor)) ?_
      refine aa rfl (bk rfl rfl (by constructor)) ?_
      refine yA rfl rfl ?_
      refine yN ?_
      dsimp only [St.put]
      refine ⟨_, ?_, ⟨⟨rfl, rfl⟩, zF, zB, zN, zX⟩⟩
      first
      | (rw [s0]; simp; done)
      | (rw [s0, s1]; simp; done)
      | (rw [s0, s1, decide_eq_true s2]; simp; done)
      | (rw [s0, s1, decide_eq_false s2, Bool.true_and, Bool.true_and, Bool.false_or, decide_eq_decide]; exact nil_len.symm)
     have s1 : inB (eo (decide (k = 1)) x) (-1) (((da p (decide (k = 1))).length : Int) - 1) = false := by rw [fq] at hs; exact hs
     refine yK rfl ?_
     refine yK rfl ?_
     refine yK rfl ?_
     refine yK rfl ?_
     refine yK rfl ?_
     refine yK rfl ?_
     refine yK rfl ?_
     refine aa rfl (cg rfl rfl (by constructor)) ?_
     refine yA rfl rfl ?_
     refine yN ?_
     dsimp only [St.put]
     refine ⟨_, ?_, ⟨⟨rfl, rfl⟩, zF, zB, zN, zX⟩⟩
     first
     | (rw [s0]; simp; done)
     | (rw [s0, s1]; simp; done)
     | (rw [s0, s1, decide_eq_true s2]; simp; done)
     | (rw [s0, s1, decide_eq_false s2, Bool.true_and, Bool.true_and, Bool.false_or, decide_eq_decide]; exact nil_len.symm)
    have s0 : n1 p (gk p.pages j) x k = false := hs
    refine yK rfl ?_
    refine yK rfl ?_
    refine yK rfl ?_
    refine yK rfl ?_
    refine yK rfl ?_
    refine yK rfl ?_
    refine yK rfl ?_
    refine yK rfl ?_
    refine yK rfl ?_
    refine aa rfl (cg rfl rfl (by constructor)) ?_
    refine yM rfl rfl ?_
    refine yK rfl ?_
    refine yK rfl ?_
    refine yK rfl ?_
    refine yK rfl ?_
    refine yK rfl ?_
    refine yK rfl ?_
    refine yK rfl ?_
    refine aa rfl (cg rfl rfl (by constructor)) ?_
    refine yA rfl rfl ?_
    refine yN ?_
    dsimp only [St.put]
    refine ⟨_, ?_, ⟨⟨rfl, rfl⟩, zF, zB, zN, zX⟩⟩
    first
    | (rw [s0]; simp; done)
    | (rw [s0, s1]; simp; done)
    | (rw [s0, s1, decide_eq_true s2]; simp; done)
    | (rw [s0, s1, decide_eq_false s2, Bool.true_and, Bool.true_and, Bool.false_or, decide_eq_decide]; exact nil_len.symm)
   rintro d hd
   dsimp only at hd ⊢
   refine yS fun _ K47 => ?_
   refine kr 20 (fun hfit => ?_)
   have hfll := (fit_lst.1 hfit).1
   rw [show (C.v (.bool d)) = .v (.bool (d && cz p.text x (cr (decide (k = 1)) x) 0)) by simp [cz]]
   refine yR ?_
   refine yM rfl rfl ?_
   refine aa rfl (bf rfl rfl (List.length_map _)) ?_
   refine yM rfl rfl ?_
   refine yN ?_
   dsimp only [St.put]
   refine K47 _ ?_
   refine bh ?_
   refine ck 145 ?_
   refine zQ ?_
   refine dd ((ak (ak (ak (ak G (nx + 1) (.box (j + j + j) [lst p.text, lst p.firsts, lst p.seconds, lst p.pages, .list (((p.pages.take j).map fun x => (er p.text x : Int)).map cells) (.tip (nx + 1 + 1)), .list (((p.pages.take j).map (dn p.text)).map cells) (.tip (nx + 1 + 1 + 1)), .list (((p.pages.take j).map (cj p.text)).map cells) (.tip (nx + 1 + 1 + 1 + 1))])) (nx + 1 + 1) (.tip ((p.pages.take j).map fun x => (er p.text x : Int)).length 3 1)) (nx + 1 + 1 + 1) (.tip ((p.pages.take j).map (dn p.text)).length 36 1)) (nx + 1 + 1 + 1 + 1) (.tip ((p.pages.take j).map (cj p.text)).length 36 1))) zX ?_
   dsimp only
   refine dc (X := Nat) (fun i => i ≤ (cr (decide (k = 1)) x).length) (fun i => (cr (decide (k = 1)) x).length - i) (fun i => [(14, .v (.bool (d && cz p.text x (cr (decide (k = 1)) x) i))), (21, .any), (22, .any), (144, .v (.int .i64 (i : Int)))]) (fun i G' => G') 0 rfl ?_ ?_ (fun _ _ h => h) ?_ ?_ ?_
   ·exact Nat.zero_le _
   ·exact zF
   ·rintro i hI
    exact (by (try dsimp only); repeat' (first | exact trivial | refine ⟨?_, ?_⟩ | exact .v | exact .any | refine .elem ?_ | exact bj _ _ | exact et _ _ | exact dv _ _ | exact ey _ (by (try dsimp only); omega) | exact .box (by (try dsimp only); omega) | exact el | exact cv | exact gw (je _ _) | refine fb ?_ ?_ | exact .arr (by (try dsimp only); omega) | exact .own (by (try dsimp only); omega) | exact .map (by (try dsimp only); omega) | exact d8 _ | refine bv ?_ ?_ | exact bj _ _))
   ·exact fun _ _ _ _ h => .inl h
   rintro i hT
   dsimp only at hT ⊢
   refine yS fun _ K48 => ?_
   refine yR ?_
   refine aa rfl (ci rfl rfl rfl) ?_
   refine yN ?_
   dsimp only [St.put]
   refine K48 _ ?_
   refine yS fun _ K49 => ?_
   refine ar rfl (fun hc => ?_) (fun hc => ?_)
   ·replace hc := of_decide_eq_true hc
    obtain ⟨q, hq⟩ : ∃ q, (cr (decide (k = 1)) x)[i]? = some q := dj (by omega)
    refine ax ?_
    refine K49 _ ?_
    refine yS fun _ K50 => ?_
    refine bh ?_
    refine yS fun _ K51 => ?_
    refine yR ?_
    refine yM rfl rfl ?_
    refine aa rfl (bu rfl rfl rfl rfl (bp (by assumption)) (Enc.len _)) ?_
    refine yE rfl rfl rfl ?_
    try dsimp only [St.put]
    refine ae rfl (dm rfl ?_)
    refine yA rfl rfl ?_
    try dsimp only [St.put]
    refine ae rfl (cp rfl rfl rfl zG rfl rfl (by rfl) ?_)
    refine yN ?_
    dsimp only [St.put]
    refine K51 _ ?_
    refine fw (i := 22) rfl zG zC ?_
    dsimp only
    refine qu [(0, none), (1, none), (2, none), (3, none), (4, none)] (fun _ => false) (fun i => [0, 1, 2].contains i) 33 (rl [5, 33]) (by kernel_rfl) (by kernel_rfl) ?_
    refine xM rfl rfl rfl rfl rfl ?_
    refine xM rfl rfl rfl rfl rfl ?_
    refine i4 (fun hs => ?_) (fun hs => ?_)
    ·have w0 : (d && cz p.text x (cr (decide (k = 1)) x) i) = true := hs
     refine af rfl rfl rfl rfl (bx rfl rfl rfl) ?_
     try dsimp only [St.put]
     refine aw rfl rfl rfl rfl (c := ir p.text) (jj (cs := cells p) rfl rfl (show 1 ≤ 4 by decide)) ?_
     try dsimp only [St.put]
     refine aw rfl rfl rfl rfl (d9 rfl rfl (Enc.len _)) ?_
     refine bz ?_
     refine di [5] (by kernel_rfl) (by simp) ?_
     refine dh ?_ ?_
     ·try dsimp only [St.put]
      refine ii rfl rfl rfl (ay rfl rfl rfl (uif p.text q ht) ?_)
      refine dx [(6, none), (7, none), (8, none), (9, none), (10, none), (11, none), (12, none), (13, none), (14, none), (15, none), (16, none), (17, none), (18, none), (19, none)] (fun i => [6, 7, 8, 10, 12, 13, 15, 17, 19].contains i) 18 (rl [20, 18]) (by kernel_rfl) ?_
      refine af rfl rfl rfl rfl (bk rfl rfl (by constructor)) ?_
      refine xM rfl rfl rfl rfl rfl ?_
      refine i4 (fun hs => ?_) (fun hs => ?_)
      ·have w1 : eu p.text q = true := hs
       obtain ⟨kq, nq, wq, cq, lq, hqe, hq1, hq2, hq3⟩ := ua1 w1
       have hkl := (List.getElem?_eq_some_iff.1 hq1).1
       have hnl := (List.getElem?_eq_some_iff.1 hq2).1
       have hcl := (hl3 cq (ga hq1)).2.1
       have hst := zy (t := p.text) (k := p.text.length) (i := kq) hkl
       have hsb := uc ht kq (by omega)
       have hqc : q.ch = (kq : Int) := by rw [hqe]
       have hql : q.ln = (nq : Int) := by rw [hqe]
       refine af rfl rfl rfl rfl (bx rfl rfl rfl) ?_
       try dsimp only [St.put]
       refine aw rfl rfl rfl rfl (bn rfl rfl) ?_
       refine af rfl rfl rfl rfl (bx rfl rfl rfl) ?_
       try dsimp only [St.put]
       refine aw rfl rfl rfl rfl (bn rfl rfl) ?_
       refine xM rfl rfl rfl rfl rfl ?_
       refine af rfl rfl rfl rfl (bx rfl rfl rfl) ?_
       try dsimp only [St.put]
       refine aw rfl rfl rfl rfl (bn rfl rfl) ?_
       try dsimp only [St.put]
       refine af rfl rfl rfl rfl (bu rfl rfl rfl (by omega) (bp (by assumption)) (Enc.len _)) ?_
       try dsimp only [St.put]
       refine aw rfl rfl rfl rfl (bn rfl rfl) ?_
       refine af rfl rfl rfl rfl (bx rfl rfl rfl) ?_
       try dsimp only [St.put]
       refine aw rfl rfl rfl rfl (bn rfl rfl) ?_
       refine af rfl rfl rfl rfl (ca rfl rfl rfl (by omega)) ?_
       refine bz ?_
       refine di [20] (by kernel_rfl) (by simp) ?_
       refine dh ?_ ?_
       ·try dsimp only [St.put]
        refine ii rfl rfl rfl (dl rfl rfl rfl (by decide) (by decide) zR (by decide) ?_)
        refine di [21] (by kernel_rfl) (by simp) ?_
        refine dh ?_ ?_
        ·try dsimp only [St.put]
         refine ii rfl rfl rfl (ay rfl rfl rfl (mj _ _ [_]) ?_)
         refine dx [(22, none), (23, none), (24, none), (25, none), (26, none), (27, none), (28, none), (29, none), (30, none), (31, none), (32, none)] (fun i => [22, 23, 24, 25, 26, 27, 28, 29, 30].contains i) 5 (rl [33, 5]) (by kernel_rfl) ?_
         refine af rfl rfl rfl rfl (bk rfl rfl (by constructor)) ?_
         refine xM rfl rfl rfl rfl rfl ?_
         refine i4 (fun hs => ?_) (fun hs => ?_)
         ·have w2 : gh p.text x q = true := by
           rw [fq] at hs
           unfold gh ph
           rw [hqc, Int.toNat_natCast, Int.add_comm]; exact hs
          refine xM rfl rfl rfl rfl rfl ?_
          refine af rfl rfl rfl rfl (ec rfl rfl rfl) ?_
          refine xM rfl rfl rfl rfl rfl ?_
          refine i4 (fun hs => ?_) (fun hs => ?_)
          ·have w3 : i = 0 := by have := of_decide_eq_true hs; omega
           refine ai rfl rfl rfl ?_
           refine ai rfl rfl rfl ?_
           refine ai rfl rfl rfl ?_
           refine ai rfl rfl rfl ?_
           refine ai rfl rfl rfl ?_
           refine ai rfl rfl rfl ?_
           refine bz ?_
           refine di [33] (by kernel_rfl) (by simp) ?_
           refine dh ?_ ?_
           ·refine fg rfl rfl rfl ?_
            refine dx [(34, none), (35, none), (36, none), (37, none)] (fun i => [34, 35, 36, 37].contains i) 0 (rl [38]) (by kernel_rfl) ?_
            refine ai rfl rfl rfl ?_
            refine af rfl rfl rfl rfl (bk rfl rfl (by constructor)) ?_
            refine af rfl rfl rfl rfl (bk rfl rfl (by constructor)) ?_
            refine af rfl rfl rfl rfl (fe rfl (by constructor)) ?_
            refine bz ?_
            dsimp only [St.put]
            refine gz (by kernel_rfl) ?_
            refine K50 _ ?_
            refine yR ?_
            refine aa rfl (ca rfl rfl rfl (by omega)) ?_
            refine yM rfl rfl ?_
            refine yN ?_
            dsimp only [St.put]
            refine ⟨i + 1, by omega, by omega, ?_⟩
            try dsimp only
            first
            | (rw [show (d && cz p.text x (cr (decide (k = 1)) x) (i + 1)) = false by rw [gd, ← Bool.and_assoc, show (d && cz p.text x (cr (decide (k = 1)) x) i) = false from w0, Bool.false_and]]
               exact ⟨⟨rfl, rfl⟩, zF, zB, zN, zX⟩)
            | (rw [show (d && cz p.text x (cr (decide (k = 1)) x) (i + 1)) = false by rw [gd, iw hq, show eu p.text q = false from w1]; simp]
               exact ⟨⟨rfl, rfl⟩, zF, zB, zN, zX⟩)
            | (rw [show (d && cz p.text x (cr (decide (k = 1)) x) (i + 1)) = false by rw [gd, iw hq, show gh p.text x q = false from w2]; simp]
               exact ⟨⟨rfl, rfl⟩, zF, zB, zN, zX⟩)
            | (rw [show (d && cz p.text x (cr (decide (k = 1)) x) (i + 1)) = true by rw [gd, ← Bool.and_assoc, show (d && cz p.text x (cr (decide (k = 1)) x) i) = true from w0, iw hq, w1, w2, decide_eq_true (show i = 0 from w3)]; rfl]
               exact ⟨⟨rfl, rfl⟩, zF, zB, zN, zX⟩)
            | (rw [show (d && cz p.text x (cr (decide (k = 1)) x) (i + 1)) = decide (k8 a q < 0) by rw [gd, ← Bool.and_assoc, show (d && cz p.text x (cr (decide (k = 1)) x) i) = true from w0, iw hq, w1, w2, decide_eq_false (show ¬ i = 0 from w3), ha]; rfl]
               exact ⟨⟨rfl, rfl⟩, zF, zB, zN, zX⟩)
           exact dg
          have w3 : ¬ i = 0 := by have := of_decide_eq_false hs; omega
          obtain ⟨a, ha⟩ : ∃ a, (cr (decide (k = 1)) x)[i - 1]? = some a := dj (by omega)
          refine xM rfl rfl rfl rfl rfl ?_
          refine xM rfl rfl rfl rfl rfl ?_
          refine af rfl rfl rfl rfl (gq rfl rfl rfl (by omega)) ?_
          try dsimp only [St.put]
          refine af rfl rfl rfl rfl (bu (k := i - 1) rfl rfl rfl (by omega) (bp ha) (Enc.len _)) ?_
          try dsimp only [St.put]
          refine aw rfl rfl rfl rfl (d9 rfl rfl (Enc.len _)) ?_
          try dsimp only [St.put]
          refine aw rfl rfl rfl rfl (d9 rfl rfl (Enc.len _)) ?_
          refine bz ?_
          refine di [33] (by kernel_rfl) (by simp) ?_
          refine dh ?_ ?_
          ·try dsimp only [St.put]
           refine ii rfl rfl rfl (ay rfl rfl rfl (xj a q) ?_)
           refine dx [(34, none), (35, none), (36, none), (37, none)] (fun i => [34, 35, 36, 37].contains i) 0 (rl [38]) (by kernel_rfl) ?_
           refine af rfl rfl rfl rfl (ci rfl rfl rfl) ?_
           refine af rfl rfl rfl rfl (cg rfl rfl (by constructor)) ?_
           refine af rfl rfl rfl rfl (bk rfl rfl (by constructor)) ?_
           refine af rfl rfl rfl rfl (fe rfl (by constructor)) ?_
           refine bz ?_
           dsimp only [St.put]
           refine gz (by kernel_rfl) ?_
           refine K50 _ ?_
           refine yR ?_
           refine aa rfl (ca rfl rfl rfl (by omega)) ?_
           refine yM rfl rfl ?_
           refine yN ?_
           dsimp only [St.put]
           refine ⟨i + 1, by omega, by omega, ?_⟩
           try dsimp only
           first
           | (rw [show (d && cz p.text x (cr (decide (k = 1)) x) (i + 1)) = false by rw [gd, ← Bool.and_assoc, show (d && cz p.text x (cr (decide (k = 1)) x) i) = false from w0, Bool.false_and]]
              exact ⟨⟨rfl, rfl⟩, zF, zB, zN, zX⟩)
           | (rw [show (d && cz p.text x (cr (decide (k = 1)) x) (i + 1)) = false by rw [gd, iw hq, show eu p.text q = false from w1]; simp]
              exact ⟨⟨rfl, rfl⟩, zF, zB, zN, zX⟩)
           | (rw [show (d && cz p.text x (cr (decide (k = 1)) x) (i + 1)) = false by rw [gd, iw hq, show gh p.text x q = false from w2]; simp]
              exact ⟨⟨rfl, rfl⟩, zF, zB, zN, zX⟩)
           | (rw [show (d && cz p.text x (cr (decide (k = 1)) x) (i + 1)) = true by rw [gd, ← Bool.and_assoc, show (d && cz p.text x (cr (decide (k = 1)) x) i) = true from w0, iw hq, w1, w2, decide_eq_true (show i = 0 from w3)]; rfl]
              exact ⟨⟨rfl, rfl⟩, zF, zB, zN, zX⟩)
           | (rw [show (d && cz p.text x (cr (decide (k = 1)) x) (i + 1)) = decide (k8 a q < 0) by rw [gd, ← Bool.and_assoc, show (d && cz p.text x (cr (decide (k = 1)) x) i) = true from w0, iw hq, w1, w2, decide_eq_false (show ¬ i = 0 from w3), ha]; rfl]
              exact ⟨⟨rfl, rfl⟩, zF, zB, zN, zX⟩)
          exact dg
         have w2 : gh p.text x q = false := by
          rw [fq] at hs
          unfold gh ph
          rw [hqc, Int.toNat_natCast, Int.add_comm]; exact hs
         refine ai rfl rfl rfl ?_
         refine ai rfl rfl rfl ?_
         refine ai rfl rfl rfl ?_
         refine ai rfl rfl rfl ?_
         refine ai rfl rfl rfl ?_
         refine ai rfl rfl rfl ?_
         refine ai rfl rfl rfl ?_
         refine ai rfl rfl rfl ?_
         refine ai rfl rfl rfl ?_
         refine bz ?_
         refine di [33] (by kernel_rfl) (by simp) ?_
         refine dh ?_ ?_
         ·refine fg rfl rfl rfl ?_
          refine dx [(34, none), (35, none), (36, none), (37, none)] (fun i => [34, 35, 36, 37].contains i) 0 (rl [38]) (by kernel_rfl) ?_
          refine ai rfl rfl rfl ?_
          refine ai rfl rfl rfl ?_
          refine af rfl rfl rfl rfl (cg rfl rfl (by constructor)) ?_
          refine af rfl rfl rfl rfl (fe rfl (by constructor)) ?_
          refine bz ?_
          dsimp only [St.put]
          refine gz (by kernel_rfl) ?_
          refine K50 _ ?_
          refine yR ?_
          refine aa rfl (ca rfl rfl rfl (by omega)) ?_
          refine yM rfl rfl ?_
          refine yN ?_
          dsimp only [St.put]
          refine ⟨i + 1, by omega, by omega, ?_⟩
          try dsimp only
          first
          | (rw [show (d && cz p.text x (cr (decide (k = 1)) x) (i + 1)) = false by rw [gd, ← Bool.and_assoc, show (d && cz p.text x (cr (decide (k = 1)) x) i) = false from w0, Bool.false_and]]
             exact ⟨⟨rfl, rfl⟩, zF, zB, zN, zX⟩)
          | (rw [show (d && cz p.text x (cr (decide (k = 1)) x) (i + 1)) = false by rw [gd, iw hq, show eu p.text q = false from w1]; simp]
             exact ⟨⟨rfl, rfl⟩, zF, zB, zN, zX⟩)
          | (rw [show (d && cz p.text x (cr (decide (k = 1)) x) (i + 1)) = false by rw [gd, iw hq, show gh p.text x q = false from w2]; simp]
             exact ⟨⟨rfl, rfl⟩, zF, zB, zN, zX⟩)
          | (rw [show (d && cz p.text x (cr (decide (k = 1)) x) (i + 1)) = true by rw [gd, ← Bool.and_assoc, show (d && cz p.text x (cr (decide (k = 1)) x) i) = true from w0, iw hq, w1, w2, decide_eq_true (show i = 0 from w3)]; rfl]
             exact ⟨⟨rfl, rfl⟩, zF, zB, zN, zX⟩)
          | (rw [show (d && cz p.text x (cr (decide (k = 1)) x) (i + 1)) = decide (k8 a q < 0) by rw [gd, ← Bool.and_assoc, show (d && cz p.text x (cr (decide (k = 1)) x) i) = true from w0, iw hq, w1, w2, decide_eq_false (show ¬ i = 0 from w3), ha]; rfl]
             exact ⟨⟨rfl, rfl⟩, zF, zB, zN, zX⟩)
         exact dg
        exact dg
       exact dg
      have w1 : eu p.text q = false := hs
      refine ai rfl rfl rfl ?_
      refine ai rfl rfl rfl ?_
      refine ai rfl rfl rfl ?_
      refine ai rfl rfl rfl ?_
      refine ai rfl rfl rfl ?_
      refine ai rfl rfl rfl ?_
      refine ai rfl rfl rfl ?_
      refine ai rfl rfl rfl ?_
      refine ai rfl rfl rfl ?_
      refine ai rfl rfl rfl ?_
      refine ai rfl rfl rfl ?_
      refine ai rfl rfl rfl ?_
      refine bz ?_
      refine di [20] (by kernel_rfl) (by simp) ?_
      refine dh ?_ ?_
      ·refine fg rfl rfl rfl ?_
       refine di [21] (by kernel_rfl) (by simp) ?_
       refine dh ?_ ?_
       ·refine fg rfl rfl rfl ?_
        refine dx [(22, none), (23, none), (24, none), (25, none), (26, none), (27, none), (28, none), (29, none), (30, none), (31, none), (32, none)] (fun i => [22, 23, 24, 25, 26, 27, 28, 29, 30].contains i) 5 (rl [33, 5]) (by kernel_rfl) ?_
        refine af rfl rfl rfl rfl (cg rfl rfl (by constructor)) ?_
        refine xM rfl rfl rfl rfl rfl ?_
        refine ai rfl rfl rfl ?_
        refine ai rfl rfl rfl ?_
        refine ai rfl rfl rfl ?_
        refine ai rfl rfl rfl ?_
        refine ai rfl rfl rfl ?_
        refine ai rfl rfl rfl ?_
        refine ai rfl rfl rfl ?_
        refine ai rfl rfl rfl ?_
        refine ai rfl rfl rfl ?_
        refine bz ?_
        refine di [33] (by kernel_rfl) (by simp) ?_
        refine dh ?_ ?_
        ·refine fg rfl rfl rfl ?_
         refine dx [(34, none), (35, none), (36, none), (37, none)] (fun i => [34, 35, 36, 37].contains i) 0 (rl [38]) (by kernel_rfl) ?_
         refine ai rfl rfl rfl ?_
         refine ai rfl rfl rfl ?_
         refine af rfl rfl rfl rfl (cg rfl rfl (by constructor)) ?_
         refine af rfl rfl rfl rfl (fe rfl (by constructor)) ?_
         refine bz ?_
         dsimp only [St.put]
         refine gz (by kernel_rfl) ?_
         refine K50 _ ?_
         refine yR ?_
         refine aa rfl (ca rfl rfl rfl (by omega)) ?_
         refine yM rfl rfl ?_
         refine yN ?_
         dsimp only [St.put]
         refine ⟨i + 1, by omega, by omega, ?_⟩
         try dsimp only
         first
         | (rw [show (d && cz p.text x (cr (decide (k = 1)) x) (i + 1)) = false by rw [gd, ← Bool.and_assoc, show (d && cz p.text x (cr (decide (k = 1)) x) i) = false from w0, Bool.false_and]]
            exact ⟨⟨rfl, rfl⟩, zF, zB, zN, zX⟩)
         | (rw [show (d && cz p.text x (cr (decide (k = 1)) x) (i + 1)) = false by rw [gd, iw hq, show eu p.text q = false from w1]; simp]
            exact ⟨⟨rfl, rfl⟩, zF, zB, zN, zX⟩)
         | (rw [show (d && cz p.text x (cr (decide (k = 1)) x) (i + 1)) = false by rw [gd, iw hq, show gh p.text x q = false from w2]; simp]
            exact ⟨⟨rfl, rfl⟩, zF, zB, zN, zX⟩)
         | (rw [show (d && cz p.text x (cr (decide (k = 1)) x) (i + 1)) = true by rw [gd, ← Bool.and_assoc, show (d && cz p.text x (cr (decide (k = 1)) x) i) = true from w0, iw hq, w1, w2, decide_eq_true (show i = 0 from w3)]; rfl]
            exact ⟨⟨rfl, rfl⟩, zF, zB, zN, zX⟩)
         | (rw [show (d && cz p.text x (cr (decide (k = 1)) x) (i + 1)) = decide (k8 a q < 0) by rw [gd, ← Bool.and_assoc, show (d && cz p.text x (cr (decide (k = 1)) x) i) = true from w0, iw hq, w1, w2, decide_eq_false (show ¬ i = 0 from w3), ha]; rfl]
            exact ⟨⟨rfl, rfl⟩, zF, zB, zN, zX⟩)
        exact dg
       exact dg
      exact dg
     exact dg
    have w0 : (d && cz p.text x (cr (decide (k = 1)) x) i) = false := hs
    refine ai rfl rfl rfl ?_
    refine ai rfl rfl rfl ?_
    refine ai rfl rfl rfl ?_
    refine bz ?_
    refine di [5] (by kernel_rfl) (by simp) ?_
    refine dh ?_ ?_
    ·refine fg rfl rfl rfl ?_
     refine dx [(6, none), (7, none), (8, none), (9, none), (10, none), (11, none), (12, none), (13, none), (14, none), (15, none), (16, none), (17, none), (18, none), (19, none)] (fun i => [6, 7, 8, 10, 12, 13, 15, 17, 19].contains i) 18 (rl [20, 18]) (by kernel_rfl) ?_
     refine af rfl rfl rfl rfl (cg rfl rfl (by constructor)) ?_
     refine xM rfl rfl rfl rfl rfl ?_
     refine ai rfl rfl rfl ?_
     refine ai rfl rfl rfl ?_
     refine ai rfl rfl rfl ?_
     refine ai rfl rfl rfl ?_
     refine ai rfl rfl rfl ?_
     refine ai rfl rfl rfl ?_
     refine ai rfl rfl rfl ?_
     refine ai rfl rfl rfl ?_
     refine ai rfl rfl rfl ?_
     refine ai rfl rfl rfl ?_
     refine ai rfl rfl rfl ?_
     refine ai rfl rfl rfl ?_
     refine bz ?_
     refine di [20] (by kernel_rfl) (by simp) ?_
     refine dh ?_ ?_
     ·refine fg rfl rfl rfl ?_
      refine di [21] (by kernel_rfl) (by simp) ?_
      refine dh ?_ ?_
      ·refine fg rfl rfl rfl ?_
       refine dx [(22, none), (23, none), (24, none), (25, none), (26, none), (27, none), (28, none), (29, none), (30, none), (31, none), (32, none)] (fun i => [22, 23, 24, 25, 26, 27, 28, 29, 30].contains i) 5 (rl [33, 5]) (by kernel_rfl) ?_
       refine af rfl rfl rfl rfl (cg rfl rfl (by constructor)) ?_
       refine xM rfl rfl rfl rfl rfl ?_
       refine ai rfl rfl rfl ?_
       refine ai rfl rfl rfl ?_
       refine ai rfl rfl rfl ?_
       refine ai rfl rfl rfl ?_
       refine ai rfl rfl rfl ?_
       refine ai rfl rfl rfl ?_
       refine ai rfl rfl rfl ?_
       refine ai rfl rfl rfl ?_
       refine ai rfl rfl rfl ?_
       refine bz ?_
       refine di [33] (by kernel_rfl) (by simp) ?_
       refine dh ?_ ?_
       ·refine fg rfl rfl rfl ?_
        refine dx [(34, none), (35, none), (36, none), (37, none)] (fun i => [34, 35, 36, 37].contains i) 0 (rl [38]) (by kernel_rfl) ?_
        refine ai rfl rfl rfl ?_
        refine ai rfl rfl rfl ?_
        refine af rfl rfl rfl rfl (cg rfl rfl (by constructor)) ?_
        refine af rfl rfl rfl rfl (fe rfl (by constructor)) ?_
        refine bz ?_
        dsimp only [St.put]
        refine gz (by kernel_rfl) ?_
        refine K50 _ ?_
        refine yR ?_
        refine aa rfl (ca rfl rfl rfl (by omega)) ?_
        refine yM rfl rfl ?_
        refine yN ?_
        dsimp only [St.put]
        refine ⟨i + 1, by omega, by omega, ?_⟩
        try dsimp only
        first
        | (rw [show (d && cz p.text x (cr (decide (k = 1)) x) (i + 1)) = false by rw [gd, ← Bool.and_assoc, show (d && cz p.text x (cr (decide (k = 1)) x) i) = false from w0, Bool.false_and]]
           exact ⟨⟨rfl, rfl⟩, zF, zB, zN, zX⟩)
        | (rw [show (d && cz p.text x (cr (decide (k = 1)) x) (i + 1)) = false by rw [gd, iw hq, show eu p.text q = false from w1]; simp]
           exact ⟨⟨rfl, rfl⟩, zF, zB, zN, zX⟩)
        | (rw [show (d && cz p.text x (cr (decide (k = 1)) x) (i + 1)) = false by rw [gd, iw hq, show gh p.text x q = false from w2]; simp]
           exact ⟨⟨rfl, rfl⟩, zF, zB, zN, zX⟩)
        | (rw [show (d && cz p.text x (cr (decide (k = 1)) x) (i + 1)) = true by rw [gd, ← Bool.and_assoc, show (d && cz p.text x (cr (decide (k = 1)) x) i) = true from w0, iw hq, w1, w2, decide_eq_true (show i = 0 from w3)]; rfl]
           exact ⟨⟨rfl, rfl⟩, zF, zB, zN, zX⟩)
        | (rw [show (d && cz p.text x (cr (decide (k = 1)) x) (i + 1)) = decide (k8 a q < 0) by rw [gd, ← Bool.and_assoc, show (d && cz p.text x (cr (decide (k = 1)) x) i) = true from w0, iw hq, w1, w2, decide_eq_false (show ¬ i = 0 from w3), ha]; rfl]
           exact ⟨⟨rfl, rfl⟩, zF, zB, zN, zX⟩)
       exact dg
      exact dg
     exact dg
    exact dg
   replace hc := of_decide_eq_false hc
   obtain rfl : i = (cr (decide (k = 1)) x).length := by omega
   refine c5 ?_
   refine K43 _ ?_
   refine yR ?_
   refine aa rfl (ca rfl rfl rfl (by omega)) ?_
   refine yM rfl rfl ?_
   refine yN ?_
   dsimp only [St.put]
   rw [show (d && cz p.text x (cr (decide (k = 1)) x) (cr (decide (k = 1)) x).length) = n1 p (gk p.pages j) x (k + 1) by rw [hd]; simp only [n1, rt, gi, Bool.and_assoc]]
   exact ⟨k + 1, by omega, by omega, ⟨⟨rfl, rfl⟩, zF, zB, zN, zX⟩⟩
  replace hc := of_decide_eq_false hc
  obtain rfl : k = 2 := by omega
  rw [ugp]
  refine c5 ?_
  refine K39 _ ?_
  refine yS fun _ K52 => ?_
  refine yS fun _ K53 => ?_
  refine yR ?_
  refine yM rfl rfl ?_
  refine aa rfl (dp rfl rfl) ?_
  refine yN ?_
  dsimp only [St.put]
  refine K53 _ ?_
  refine ar rfl (fun hc => ?_) (fun hc => ?_)
  ·have hpg : k7 p (gk p.pages j) x = false := by simpa using hc
   have hE : ce p = 90 := vv ht (un hx hpg)
   rw [hpg]
   refine c5 ?_
   refine K32 _ ?_
   refine yS fun _ K54 => ?_
   refine yS fun _ K55 => ?_
   refine yR ?_
   refine yM rfl rfl ?_
   refine aa rfl (dp rfl rfl) ?_
   refine yN ?_
   dsimp only [St.put]
   refine K55 _ ?_
   refine ar rfl (fun _ => ?_) (fun h => by cases h)
   refine yS fun _ K56 => ?_
   refine yR ?_
   refine yA rfl rfl ?_
   refine yA rfl rfl ?_
   refine yN ?_
   dsimp only [St.put]
   refine K56 _ ?_
   refine aq ?_
   refine jq rfl (by constructor) (by constructor) zN zS ?_ ?_
   ·rw [se (by rw [hE]; decide)]
   rw [hE]
  have hpg : k7 p (gk p.pages j) x = true := by simpa using hc
  have hpo := pageB_true.1 hpg
  rw [hpg]
  refine ax ?_
  refine K52 _ ?_
  refine yS fun _ K57 => ?_
  refine yR ?_
  refine yF rfl rfl rfl rfl ?_
  refine yL rfl rfl rfl ?_
  refine yA rfl rfl ?_
  refine yN ?_
  dsimp only [St.put]
  refine K57 _ ?_
  refine yR ?_
  refine yM rfl rfl ?_
  refine yE rfl rfl rfl ?_
  refine yM rfl rfl ?_
  try dsimp only [St.put]
  refine ae rfl (ti rfl rfl rfl (unb p (gk p.pages j) x ((p.pages.take j).map fun x => (er p.text x : Int)) ((p.pages.take j).map (dn p.text)) ((p.pages.take j).map (cj p.text)) (nx + 1) (nx + 1 + 1) (nx + 1 + 1 + 1) (nx + 1 + 1 + 1 + 1) (j + j + j) ht hpo (by rw [List.length_map, List.length_take]; omega) (by rw [List.length_map, List.length_take]; omega) (by rw [List.length_map, List.length_take]; omega) _ _ (by dsimp only [St.put]; omega) (by dsimp only [St.put]; omega) (by dsimp only [St.put]; omega) (by dsimp only [St.put]; omega) (by omega) (by omega) (by omega) (by omega) (by omega) (by omega) zG zG zG zG) ?_)
  refine yN ?_
  dsimp only [St.put]
  refine K36 _ ?_
  refine yR ?_
  refine aa rfl (ca rfl rfl rfl (by omega)) ?_
  refine yM rfl rfl ?_
  refine yN ?_
  dsimp only [St.put]
  rw [show j + j + j + 1 + 1 + 1 = (j + 1) + (j + 1) + (j + 1) by omega, ← n7 (f := fun x => (er p.text x : Int)) hx, ← n7 (f := dn p.text) hx, ← n7 (f := cj p.text) hx, ← uck hx]
  exact ⟨j + 1, by omega, ⟨by omega, by rw [ua5, hK.2, xh hx, hpg]; rfl⟩, ⟨⟨rfl, rfl⟩, zF, zB, zN, zX⟩⟩
 replace hc := of_decide_eq_false hc
 obtain rfl : j = p.pages.length := by omega
 rw [List.take_length]
 have hE : ce p = 0 := ul2 ht (by unfold ff; rw [hRB, decide_eq_true hnp, hK.2]; rfl)
 refine c5 ?_
 refine K32 _ ?_
 refine yS fun _ K58 => ?_
 refine yS fun _ K59 => ?_
 refine yR ?_
 refine yM rfl rfl ?_
 refine aa rfl (dp rfl rfl) ?_
 refine yN ?_
 dsimp only [St.put]
 refine K59 _ ?_
 refine ar rfl (fun h => by cases h) (fun _ => ?_)
 refine ax ?_
 refine K58 _ ?_
 refine yS fun _ K60 => ?_
 refine y7 (nx + 1) _ [lst p.text, lst p.firsts, lst p.seconds, lst p.pages, lst (p.pages.map fun x => (er p.text x : Int)), lst (p.pages.map (dn p.text)), lst (p.pages.map (cj p.text))] zG zW ?_
 refine fw (i := 12) rfl zG (by simp) ?_
 dsimp only
 refine yR ?_
 refine yM rfl rfl ?_
 refine yA rfl rfl ?_
 refine yA rfl rfl ?_
 refine yN ?_
 dsimp only [St.put]
 refine K60 _ ?_
 refine aq ?_
 refine jq rfl (by constructor) (by constructor) zN zS ?_ ?_
 ·rw [uu hE]
 rw [hE]
end Go.Proofs.YtbbdginipiljdaaDoor
namespace Go.AB
open Go Go.RowKit

theorem EvR.trans {E1 E2 E3 : Env} {w1 w2 w3 : World} (h : EvR E1 w1 E2 w2) (k : EvR E2 w2 E3 w3) : EvR E1 w1 E3 w3 :=
 ⟨k.B.trans h.B, fun b => Nat.le_trans (h.L b) (k.L b), fun b i hi => (k.cell b i (Nat.lt_of_lt_of_le hi (h.L b))).trans (h.cell b i hi), Nat.le_trans h.nx k.nx, fun n hn v3 x3 y3 h3 => by
  obtain ⟨v2, x2, y2, h2, q1, q2⟩ := k.T n (Nat.lt_of_lt_of_le hn h.nx) _ _ _ h3
  obtain ⟨v1, x1, y1, h1, q3, q4⟩ := h.T n hn _ _ _ h2
  exact ⟨v1, x1, y1, h1, Nat.le_trans q3 q1, fun e => (q4 (by omega)).trans (q2 (by omega))⟩⟩
theorem EvR.drop {E E' : Env} {w w' : World} (h : EvR E w E' w') {m : Nat} (hm : E.nx ≤ m) : EvR E w (E'.drop m) w' :=
 ⟨h.B, h.L, h.cell, hm, fun n hn v x y ht => h.T n hn v x y (by
  simp only [Env.drop] at ht
  split at ht
  ·exact ht
  ·cases ht)⟩
theorem EvR.same {E : Env} {w w' : World} (hc : ∀ b i, i < E.L b → w'.cell? ⟨b, i, none⟩ = w.cell? ⟨b, i, none⟩) : EvR E w E w' :=
 ⟨rfl, fun _ => Nat.le_refl _, hc, Nat.le_refl _, fun _ _ v x y ht => ⟨v, x, y, ht, Nat.le_refl _, fun _ => rfl⟩⟩

/-- An iterator at work: what is owned when so many things have come; how many there are; what they are. -/
structure FC where
 G : Nat → Nat → Option GObj
 nx : Nat
 J : Nat → Env → World → Prop
 N : Nat
 l : Nat
 cl : Nat → List C
def FC.st (I : FC) (st : St) (k : Nat) : St := { st with G := I.G k, nx := I.nx, df := 0 }
structure FC.Ok (P : Program) (I : FC) : Prop where
 sim : ∀ {k E W}, I.J k E W → SimG E W (I.G k) I.nx
 F : ∀ {k E W}, I.J k E W → E.F ≤ W.heap.size
 ev : ∀ {k E W E' W'}, I.J k E W → Ev E W E' W' → SimG E' W' (I.G k) I.nx → I.J k E' W'
 hY : ∀ {k E W vs}, I.J k E W → k < I.N → Rs E W (I.cl k) vs → YieldAt (fen none) 1 P I.l vs.toArray W fun e W' => e = .returned (.bool true) ∧ ∃ E', EvR E W E' W' ∧ I.J (k + 1) E' W'
/-- The contract of an iterator's value, where a fact is known by a name. -/
def v8 (nF : Nat) (F : GObj) (P : Program) (gf : Nat) (caps : List C) (N : Nat) (cl : Nat → List C) : Prop :=
 ∀ (I : FC), I.N = N → I.cl = cl → I.Ok P → (∀ k, I.G k nF = some F) → nF < I.nx → ∀ (E : Env) (w : World) (lb : List Value), I.J 0 E w → Rs E w caps lb →
  CallsIn (fen none) 2 P gf (#[.func (.yield I.l) #[] #[]] ++ lb.toArray) w fun e W' => (∃ v, e = .returned v) ∧ ∃ E', I.J N E' W'

section
variable (P : Program) (I : FC)
def FW (c : Code) (Q : Exit → St → Nat → Prop) (st : St) (k : Nat) : Prop :=
 ∀ E W a, I.J k E W → Sim E W (I.st st k) a → cwp none P c (fun e a' W' => ∃ E' st' k', I.J k' E' W' ∧ Sim E' W' (I.st st' k') a' ∧ Q e st' k') a W
def ue1 (K : St → Nat → Prop) (Q : Exit → St → Nat → Prop) : Exit → St → Nat → Prop
 | .normal, st, k => K st k
 | e, st, k => Q e st k
def ue2 (id : Nat) (Q : Exit → St → Nat → Prop) : Exit → St → Nat → Prop
 | .exit id', st, k => if id' = id then Q .normal st k else Q (.exit id') st k
 | e, st, k => Q e st k
def re (ops : Array Oper) (K : St → Nat → Prop) (rest : List Oper) (st : St) (k : Nat) : Prop :=
 ∀ E W a, I.J k E W → Sim E W (I.st st k) a → ∀ Q : Exit → Act → World → Prop, (∀ a' E' W' st' k', I.J k' E' W' → Sim E' W' (I.st st' k') a' → K st' k' → Q .normal a' W') → wpListIn (fen none) 1 P ops Q rest a W
end
/-- Cells that name nothing beyond m: what stands in slots last. -/
def lowR (m : Nat) : List Nat → List (Nat × C) → Prop
 | _, [] => True
 | s, p :: r => (s.contains p.1 = true ∨ p.2.low m) ∧ lowR m (p.1 :: s) r
theorem ucb {m : Nat} {l : List C} {i : Nat} (hl : (l.getD i .any).low m) : ∀ {r : List (Nat × C)} {s : List Nat}, lowR m s r → s.contains i = false → (cb l r i).low m
 | [], _, _, _ => hl
 | p :: r, s, h, hi => by
  simp only [cb]
  cases hb : Nat.beq p.1 i
  ·rw [cond_false]
   refine ucb hl h.2 ?_
   have hne : ¬ p.1 = i := fun e => by rw [e] at hb; simp at hb
   simp only [List.contains_cons, Bool.or_eq_false_iff, beq_eq_false_iff_ne]
   exact ⟨fun e => hne e.symm, hi⟩
  ·rw [cond_true]
   have e := Nat.eq_of_beq_eq_true hb
   rcases h.1 with h1 | h1
   ·rw [e, hi] at h1; cases h1
   ·exact h1

/-- .. so what stood in slots ahead. -/
def lowN (m : Nat) (s : List Nat) : Nat → List C → Prop
 | _, [] => True
 | i, c :: l => (s.contains i = true ∨ c.low m) ∧ lowN m s (i + 1) l
theorem ucd {m : Nat} {s : List Nat} : ∀ {l : List C} {i j : Nat}, lowN m s i l → s.contains (i + j) = false → (l.getD j .any).low m
 | [], _, _, _, _ => .any
 | c :: l, i, 0, h, hs => by
  rcases h.1 with h1 | h1
  ·rw [Nat.add_zero] at hs; rw [hs] at h1; cases h1
  ·exact h1
 | c :: l, i, j + 1, h, hs => ucd (l := l) (i := i + 1) (j := j) h.2 (by rw [show i + 1 + j = i + (j + 1) by omega]; exact hs)
theorem ucc {m : Nat} {l : List C} {i : Nat} : ∀ {r : List (Nat × C)} {s : List Nat}, ((r.map (·.1)).contains i = false → (l.getD i .any).low m) → lowR m s r → s.contains i = false → (cb l r i).low m
 | [], _, hl, _, _ => hl rfl
 | p :: r, s, hl, h, hi => by
  simp only [cb]
  cases hb : Nat.beq p.1 i
  ·rw [cond_false]
   have hne : ¬ p.1 = i := fun e => by rw [e] at hb; simp at hb
   refine ucc (fun hk => hl ?_) h.2 ?_
   ·simp only [List.map_cons, List.contains_cons, Bool.or_eq_false_iff, beq_eq_false_iff_ne]
    exact ⟨fun e => hne e.symm, hk⟩
   ·simp only [List.contains_cons, Bool.or_eq_false_iff, beq_eq_false_iff_ne]
    exact ⟨fun e => hne e.symm, hi⟩
  ·rw [cond_true]
   have e := Nat.eq_of_beq_eq_true hb
   rcases h.1 with h1 | h1
   ·rw [e, hi] at h1; cases h1
   ·exact h1
/-- so that what stands in slots last names nothing beyond what is owned -/
theorem zK {p : Prop} (h : p := by (try dsimp only); repeat' (first | exact trivial | exact .inl rfl | refine ⟨?_, ?_⟩ | exact .v | exact .any | refine .inr ?_ | refine .elem ?_ | refine .agg ?_ | refine .tup ?_ | refine .fn ?_ | exact bj _ _ | exact et _ _ | exact dv _ _ | exact ey _ (by (try dsimp only); omega) | exact .box (by (try dsimp only); omega) | exact el | exact cv | exact d8 _ | refine bv ?_ ?_)) : p := h
section
variable {P : Program} {I : FC} {Q : Exit → St → Nat → Prop} {st : St} {k : Nat}
theorem ta (h : Q .normal st k) : FW P I .skip Q st k := fun _ _ _ hj hs => wpIn_skip ⟨_, st, k, hj, hs, h⟩
theorem yi {id : Nat} (h : Q (.exit id) st k) : FW P I (.exit id) Q st k := fun _ _ _ hj hs => wpIn_exit ⟨_, st, k, hj, hs, h⟩
theorem oe {x z : Code} (h : ∀ K : St → Nat → Prop, (∀ st' k', FW P I z Q st' k' → K st' k') → FW P I x (ue1 K Q) st k) : FW P I (.seq x z) Q st k := by
 intro E W a hj hs
 refine wpIn_seq (wpIn_mono (h _ (fun _ _ h => h) E W a hj hs) ?_)
 rintro e a' W' ⟨E', st', k', h1, h2, h3⟩
 cases e with
 | normal => exact h3 E' W' a' h1 h2
 | _ => exact ⟨E', st', k', h1, h2, h3⟩
theorem qq {id : Nat} {c : Code} (h : FW P I c (ue2 id Q) st k) : FW P I (.block id c) Q st k := by
 intro E W a hj hs
 refine wpIn_block (wpIn_mono (h E W a hj hs) ?_)
 rintro e a' W' ⟨E', st', k', h0, h1, h2⟩
 cases e with
 | exit id' =>
  simp only [ue2] at h2
  simp only [Exit.inBlock]
  split at h2
  ·rename_i e; rw [if_pos e]; exact ⟨E', st', k', h0, h1, h2⟩
  ·rename_i e; rw [if_neg e]; exact ⟨E', st', k', h0, h1, h2⟩
 | _ => exact ⟨E', st', k', h0, h1, h2⟩
theorem td {c : Operand} {x z : Code} {b : Bool} (hc : evC st c = .v (.bool b)) (ht : b = true → FW P I x Q st k) (hf : b = false → FW P I z Q st k) : FW P I (.cond c x z) Q st k := by
 intro E W a hj hs
 have : evC (I.st st k) c = .v (.bool b) := hc
 exact wpIn_cond_split ((this ▸ hs.ev c).v_inv) (fun e => ht e E W a hj hs) (fun e => hf e E W a hj hs)
theorem j4 {c : Code} (m : Nat) (h : FW P I c Q { st with l := firsts st.l st.r 0 m, r := [] } k) : FW P I c Q st k := fun E W a hj hs => h E W a hj (hs.wipe m)
theorem yh {X : Type} {c : Code} (Inv : X → Prop) (μ : X → Nat) (u : X → List (Nat × C)) (kk : X → Nat) (x0 : X) (hr : st.r = []) (h0 : Inv x0) (e0 : py st.l [] (u x0)) (hk : k = kk x0)
  (hu : ∀ x, Inv x → qn I.nx (u x))
  (round : ∀ x, Inv x → FW P I c (ue1 (fun st' k' => ∃ x', μ x' < μ x ∧ Inv x' ∧ k' = kk x' ∧ Back (I.st st k) (u x') (I.G k') (I.st st' k')) Q) { st with r := u x } (kk x)) : FW P I (.loop c) Q st k := by
 intro E W a hj hs
 refine udv (fun m a1 W1 => ∃ x E1, m = μ x ∧ Inv x ∧ I.J (kk x) E1 W1 ∧ Sim E1 W1 (I.st { st with r := u x } (kk x)) a1) (μ x0) ⟨x0, E, rfl, h0, hk ▸ hj, ?_⟩ ?_
 ·have := le_r (n := st.n) (G := I.G k) (nx := I.nx) (df := 0) e0 rfl E W a (by rw [← hr]; exact hs)
  rw [← hk]
  exact this
 ·rintro m a1 W1 ⟨x, E1, rfl, hI, hj1, hs1⟩
  refine wpIn_mono (round x hI E1 W1 a1 hj1 hs1) ?_
  rintro e a' W' ⟨E', st', k', h1, h2, h3⟩
  cases e with
  | normal =>
   obtain ⟨x', q1, q2, rfl, q3⟩ := h3
   refine ⟨μ x', q1, x', E', rfl, q2, h1, ?_⟩
   refine ⟨by have := h2.d; exact this, h2.sz.trans (show st'.n = st.n from q3.n.1), fun i v hv => ?_, h2.g⟩
   have hcl : cb st.l (u x') i = .any ∨ cb st.l (u x') i = cb st'.l st'.r i := by
    by_cases hi : i < st.l.length
    ·rcases ym _ _ q3.fits i (Nat.zero_le _) (by show i < 0 + st.l.length; omega) with h | h
     ·exact .inl h
     ·exact .inr h.symm
    ·rcases yf st.l (u x') i with ⟨p, hp, he, he2⟩ | ⟨_, he⟩
     ·rcases q3.keys with hk | hk
      ·have : p.1 < st.l.length := x9 hk p hp
       omega
      ·rcases yl hk p hp with h | h
       ·left; rw [he2, h]
       ·right; rw [he2, ← h, he]; rfl
     ·left; rw [he, List.getD_eq_getElem?_getD, List.getElem?_eq_none (by omega)]; rfl
   show R E' W' (cb st.l (u x') i) v
   rcases hcl with h | h
   ·rw [h]; exact .any
   ·rw [h]; exact h2.t i v hv
  | _ => exact ⟨E', st', k', h1, h2, h3⟩
/-- What plain code must leave. -/
def SegP (I : FC) (k : Nat) (l : List C) (n : Nat) (st' : St) : Prop := st'.df = 0 ∧ st'.n = n ∧ (st'.l = l ∨ lowN I.nx (st'.r.map (·.1)) 0 st'.l) ∧ I.nx ≤ st'.nx ∧ (∀ n o, I.G k n = some o → st'.G n = some o) ∧ lowR I.nx [] st'.r
theorem uad (ok : I.Ok P) {E : Env} {W : World} {a : Act} (hj : I.J k E W) (hs : Sim E W (I.st st k) a) (hr : st.r = []) {E' : Env} {W' : World} {st' : St} {a' : Act} (h1 : Ev E W E' W') (h2 : Sim E' W' st' a') (h3 : SegP I k st.l st.n st') : I.J k (E'.drop I.nx) W' ∧ Sim (E'.drop I.nx) W' (I.st st' k) a' := by
 obtain ⟨q1, q2, q3, q4, q5, q6⟩ := h3
 have hnx : E.nx = I.nx := hs.g.nx
 have hlow := hs.lowG
 have hgl : ∀ n o, I.G k n = some o → n < I.nx ∧ o.low I.nx := hlow
 have hll : ∀ i, i < st.n → (st.l.getD i .any).low I.nx := fun i hi => by
  have := hs.low i hi
  have e : cb (I.st st k).l (I.st st k).r i = st.l.getD i .any := by show cb st.l st.r i = _; rw [hr]; rfl
  rw [e] at this
  exact this
 have hs' := h2.dropTo (st' := I.st st' k) rfl q1.symm q4 (fun i hi => .inr ⟨rfl, by
  rcases q3 with q3 | q3
  ·exact ucb (q3 ▸ hll i (q2 ▸ hi)) q6 rfl
  ·exact ucc (fun hk => ucd (i := 0) q3 (by rw [Nat.zero_add]; exact hk)) q6 rfl⟩) (fun n o ho => ⟨q5 n o ho, hgl n o ho⟩)
 exact ⟨ok.ev hj (h1.drop (by omega)) hs'.g, hs'⟩
/-- Plain code. -/
theorem yg (ok : I.Ok P) {c : Code} (hr : st.r = []) (h : AW none P c (fun e st' => SegP I k st.l st.n st' ∧ Q e st' k) (I.st st k)) : FW P I c Q st k := by
 intro E W a hj hs
 refine il ?_ (h E W a hs)
 rintro e a' W' ⟨st', E', h1, h2, h3⟩
 obtain ⟨q1, q2⟩ := uad ok hj hs hr h1 h2 h3.1
 exact ⟨_, st', k, q1, q2, h3.2⟩
/-- .. so many pieces of it: what lies between. -/
def jn (P : Program) (I : FC) (z : Code) (Q : Exit → St → Nat → Prop) (k : Nat) (st0 st1 : St) : Prop :=
 ∀ E0 W0 a0 E1 W1 a1, I.J k E0 W0 → Sim E0 W0 (I.st st0 k) a0 → Ev E0 W0 E1 W1 → Sim E1 W1 st1 a1 → cwp none P z (fun e a' W' => ∃ E' st' k', I.J k' E' W' ∧ Sim E' W' (I.st st' k') a' ∧ Q e st' k') a1 W1
theorem og {x z : Code} (h : AW none P x (oy (jn P I z Q k st) fun _ _ => False) (I.st st k)) : FW P I (.seq x z) Q st k := by
 intro E W a hj hs
 refine wpIn_seq (il ?_ (h E W a hs))
 rintro e a1 W1 ⟨st1, E1, h1, h2, h3⟩
 cases e with
 | normal => exact h3 E W a E1 W1 a1 hj hs h1 h2
 | _ => exact h3.elim
theorem vm {x z : Code} {st1 : St} (h : AW none P x (oy (jn P I z Q k st) fun _ _ => False) st1) : jn P I (.seq x z) Q k st st1 := by
 intro E0 W0 a0 E1 W1 a1 hj hs hev hs1
 refine wpIn_seq (il ?_ (h E1 W1 a1 hs1))
 rintro e a2 W2 ⟨st2, E2, h1, h2, h3⟩
 cases e with
 | normal => exact h3 E0 W0 a0 E2 W2 a2 hj hs (hev.trans h1) h2
 | _ => exact h3.elim
theorem oh (ok : I.Ok P) {z : Code} {st1 : St} (hr : st.r = []) (hp : SegP I k st.l st.n st1) (h : FW P I z Q st1 k) : jn P I z Q k st st1 := by
 intro E0 W0 a0 E1 W1 a1 hj hs hev hs1
 obtain ⟨q1, q2⟩ := uad ok hj hs hr hev hs1 hp
 exact h _ W1 a1 q1 q2
theorem ucv {id : Nat} {l : List Oper} (h : re P I l.toArray (Q .normal) l st k) : FW P I (.region id l.toArray false) Q st k := fun E W a hj hs =>
 wpIn_region_lit (h E W a hj hs _ fun a' E' W' st' k' h0 h1 h2 => ⟨E', st', k', h0, h1, h2⟩)
variable {ops : Array Oper} {K : St → Nat → Prop} {rest : List Oper} {o : Oper} {c : C}
theorem ucz (h : K st k) : re P I ops K [] st k := fun E W a hj hs _ hq => wpListIn_nil (hq a E W st k hj hs h)
theorem pk (hg : eg ops st o = some true) (hq : NStep P o (I.st st k) c) (h : re P I ops K rest (st.put o.dst c) k) : re P I ops K (o :: rest) st k := by
 intro E W a hj hs Q hQ
 have hg' : eg ops (I.st st k) o = some true := hg
 refine wpListIn_step fun Kr hK => ?_
 rw [if_pos (km hg' hs)]
 obtain ⟨v, h1, h2⟩ := hq E W a hs
 refine xl (vj hg).2 ?_
 unfold Oper.wp
 rw [h2 W]
 have hp := hs.put o.dst h1
 exact hK _ _ (h E W _ hj (by cases hd : o.dst <;> (rw [hd] at hp; exact hp)) Q hQ)
/-- A call of yield. -/
theorem ucy (ok : I.Ok P) {fv : Operand} {args : List Operand} {ats : Array TypeId} {cs : List C} (hk : k < I.N) (hg : eg ops st o = some true) (ho : o.op = .call { callee := .value fv, args := args.toArray, argTypes := ats }) (hf : evC st fv = .v (.func (.yield I.l) #[] #[])) (has : args.map (evC st) = cs) (hcs : cs = I.cl k)
  (h1 : re P I ops K rest (st.put o.dst (.v (.bool true))) (k + 1)) : re P I ops K (o :: rest) st k := by
 intro E W a hj hs Q hQ
 have hg' : eg ops (I.st st k) o = some true := hg
 have hf' : evC (I.st st k) fv = .v (.func (.yield I.l) #[] #[]) := hf
 refine wpListIn_step fun Kr hK => ?_
 rw [if_pos (km hg' hs)]
 have hfv := (hf' ▸ hs.ev fv).v_inv
 subst hcs
 have hra : Rs E W (I.cl k) (args.map a.eval) := by
  rw [← has]
  refine ⟨by simp, fun j c v h1 h2 => ?_⟩
  rw [List.getElem?_map] at h1 h2
  cases hx : args[j]? with
  | none => rw [hx] at h1; cases h1
  | some x =>
   rw [hx] at h1 h2
   simp only [Option.map_some, Option.some.injEq] at h1 h2
   subst h1; subst h2
   exact hs.ev x
 obtain ⟨fn, tmps, assign, body, hy, hR⟩ := ok.hY hj hk hra
 refine ⟨fun _ _ => trivial, ?_⟩
 rw [Oper.semAt_eq _ _ _ (vj hg).2]
 have hrun : (execOp a.eval o).run P W = .ok (.round I.l fn tmps assign body) W := by
  simp only [execOp, ho, resolve, hfv]
  simp [Deferred.ofValue, invoke]
  simpa using hy
 rw [hrun]
 refine ⟨fun e => (by cases e), uhd (hR.mono ?_)⟩
 rintro e W' ⟨rfl, E', h3, h4⟩
 refine hK _ _ (h1 E' W' _ h4 ?_ Q hQ)
 have hdef : a.defers = [] := List.eq_nil_of_length_eq_zero hs.d.2
 have hs' : Sim E' W' (I.st st (k + 1)) a := by
  refine ⟨⟨?_, hs.d.2⟩, hs.sz, fun i v hv => (hs.t i v hv).evr h3, ok.sim h4⟩
  rw [hdef]
  exact ok.F h4
 have hp := hs'.put o.dst (c := .v (.bool true)) (v := .bool true) (.v rfl)
 cases hd : o.dst <;> (rw [hd] at hp; exact hp)
end
theorem Rs.evr2 {E E' : Env} {w w' : World} {cs : List C} {vs : List Value} (h : Rs E w cs vs) (k : Ev E w E' w') : Rs E' w' cs vs := ⟨h.1, fun j c v h1 h2 => (h.2 j c v h1 h2).ev k⟩
theorem uco {nF : Nat} {F : GObj} {P : Program} {gf : Nat} {fn : Func} {c : Code} {caps : List C} {N : Nat} {cl : Nat → List C} (hf : P.funcs[gf]? = some fn) (hb : fn.body = some c) (hr : fn.results = #[])
  (h : ∀ I : FC, I.N = N → I.cl = cl → I.Ok P → (∀ k, I.G k nF = some F) → nF < I.nx →
   FW P I c (fun e _ k => (e = .normal ∨ e = .ret) ∧ k = N) { n := caps.length + 1 + (fn.ntmps - (caps.length + 1)), l := .v (.func (.yield I.l) #[] #[]) :: caps, r := [], G := noG, nx := 0 } 0) : v8 nF F P gf caps N cl := by
 intro I hN hcl ok hG hn E w lb hj hrs
 have hargs : Rs E w (.v (.func (.yield I.l) #[] #[]) :: caps) (.func (.yield I.l) #[] #[] :: lb) := Rs.cons (.v rfl) hrs
 have hsim := Sim.start hargs (ok.sim hj) (ok.F hj) fn.ntmps
 have e1 : (#[.func (.yield I.l) #[] #[]] ++ lb.toArray : Array Value) = (.func (.yield I.l) #[] #[] :: lb).toArray := by simp
 rw [e1]
 have hw := h I hN hcl ok hG hn E w _ hj (show Sim E w (FC.st I _ 0) _ by unfold FC.st; simpa using hsim)
 refine callsIn_of_wp_marks hf hb trivial (wpIn_mono (udu (m := 2) hw) ?_)
 rintro e a' w' ⟨E', st', k', q1, q2, q3, rfl⟩
 have hd : a'.defers = [] := List.eq_nil_of_length_eq_zero q2.d.2
 have fin : bodyPostM (fen none) 2 P fn (fun e W' => (∃ v, e = .returned v) ∧ ∃ E', I.J k' E' W') .ret a' w' := by
  show LeavesInM (fen none) 2 P fn a'.tmps _ a'.defers .returning w'
  rw [hd]
  exact ⟨_, results_none hr _ _ _, ⟨_, rfl⟩, E', q1⟩
 rcases q3 with rfl | rfl
 ·exact fin
 ·exact fin

def tv (J : Nat → Nat → Option GObj) (k : Nat) (e : Exit) (st : St) : Prop :=
 match e with
 | .normal => ∀ n o, J k n = some o → st.G n = some o
 | _ => False
theorem uei {P : Program} {nF : Nat} {F : GObj} {N : Nat} {g : Operand} {ps : Array Tmp} {assign body : Code} {Q : Exit → St → Prop} {st : St} {gf : Nat} [Fun P gf] {caps : List C} {cl : Nat → List C} (pl : List Tmp)
  (J : Nat → Nat → Option GObj) (u : Nat → List (Nat × C)) (it : v8 nF F P gf caps N cl) (hJF : ∀ k, J k nF = some F) (hnF : nF < st.nx)
  (hg : evC st g = .fn (.func gf) caps) (hps : ps = pl.toArray) (hlen : ∀ k, (cl k).length = pl.length)
  (hu : ∀ k, putL pl (cl k) { st with G := J k, df := 0 } = { st with r := u k, G := J k, df := 0 })
  (h0 : ∀ n o, J 0 n = some o → st.G n = some o) (hJ : ∀ k n o, J k n = some o → st.G n = some o ∨ (n < st.nx ∧ o.low st.nx))
  (round : ∀ l k, k < N → AW (some l) P assign (oy (AW (some l) P body (tv J (k + 1))) fun _ _ => False) { st with r := u k, G := J k, df := 0 })
  (done : Q .normal { st with G := J N, df := st.df + 1 }) : AW none P (.rangeFunc g ps assign body) Q st := by
 intro E w a hs
 obtain ⟨vs, hgv, hvs⟩ := (hg ▸ hs.ev g).fn_inv
 have hlow : ∀ {G : Nat → Option GObj}, (∀ n o, G n = some o → st.G n = some o ∨ (n < st.nx ∧ o.low st.nx)) → ∀ n o, G n = some o → n < st.nx ∧ o.low st.nx := fun h n o ho => by
  rcases h n o ho with h1 | h1
  ·exact hs.lowG n o h1
  ·exact h1
 have hF : E.F ≤ w.heap.size := hs.d.F
 have hnx := hs.g.nx
 have simAt : ∀ {E1 : Env} {W : World} {G : Nat → Option GObj} {ds : List Deferred} {k : Nat}, Ev E w E1 W → SimG E1 W G st.nx → DefN E1 W k ds → Sim E1 W { st with G := G, df := k } { a with defers := ds } := fun hev hg1 hd =>
  ⟨hd, hs.sz, fun i v hv => (hs.t i v hv).ev hev, hg1⟩
 have marked : ∀ {E1 : Env} {W : World} {D : Nat}, Ev E w E1 W → (∀ n t, E1.T n = some t → n < st.nx) → NCB st.nx w.heap.size E1 W → w.heap.size ≤ D → W.heap[D]? = some (.deferred (some [])) → DefN E1 W (st.df + 1) ({ target := .collected D, args := #[] } :: a.defers) := fun {E1 W D} hev hlt hn hD hK => by
  refine ⟨⟨⟨D, rfl, by rw [hev.x.F]; omega, hK, fun n t ht hb => ?_, ?_⟩, (hs.d.ev hev).1⟩, by simp [hs.d.2]⟩
  ·have := hn n t D _ (hlt n t ht) ht hb hK rfl
   omega
  ·have : ∀ {ds : List Deferred}, DefOk E w ds → ∀ d' ∈ ds, d'.target ≠ .collected D := by
    intro ds
    induction ds with
    | nil => exact fun _ d' h => by cases h
    | cons d ds ih =>
     rintro ⟨⟨D', e', _, h2, _⟩, k⟩ d' hd'
     rcases List.mem_cons.1 hd' with rfl | hd'
     ·rw [e']
      intro e
      simp only [Target.collected.injEq] at e
      have := (Array.getElem?_eq_some_iff.1 h2).1
      omega
     ·exact ih k d' hd'
   exact this hs.d.1
 refine udu (n := 3) (wpIn_rangeFunc fun fn _ => ?_)
 -- the loop's record and the block for deferred calls
 obtain ⟨rc, hrc⟩ : ∃ rc : LoopState → Option Code → Loop, rc = fun s pe => { state := s, pending := pe, fn, tmps := a.tmps, params := ps, assign, body, defers := w.heap.size } := ⟨_, rfl⟩
 obtain ⟨W1, hW1⟩ : ∃ W1, (w.alloc (.deferred (some []))).alloc (.loop (rc .ready none)) = W1 := ⟨_, rfl⟩
 have sz1 : W1.heap.size = w.heap.size + 2 := by rw [← hW1]; simp
 have gr1 : w.grownBy W1 none := by
  refine ⟨by rw [← hW1]; rfl, by rw [← hW1]; rfl, by rw [← hW1]; rfl, by omega, fun k hk _ => ?_⟩
  rw [← hW1, Below.heap_alloc _ _ _ (by simp; omega), Below.heap_alloc _ _ _ hk]
 have recs : W1.heap[w.heap.size + 1]? = some (.loop (rc .ready none)) ∧ W1.heap[w.heap.size]? = some (.deferred (some [])) := by
  rw [← hW1]
  refine ⟨by have := World.alloc_heap_new (w.alloc (.deferred (some []))) (.loop (rc .ready none)); simpa using this, ?_⟩
  rw [Below.heap_alloc _ _ _ (by simp)]
  exact World.alloc_heap_new w _
 have own1 : OwnW E w (J 0) st.nx W1 := OwnW.turn hs.g ⟨E, Ev.refl E w, hs.g.weak h0, fun n t b o _ ht hb _ _ => (hs.g.tb n t.1 t.2.1 t.2.2 b ht hb).2⟩ gr1 (fun r e => by cases e)
 refine ⟨w.heap.size + 1, [{ target := .collected w.heap.size, args := #[] }], W1, { target := .fn (.func gf) vs.toArray, args := #[.func (.yield (w.heap.size + 1)) #[] #[]] }, W1, gf, #[.func (.yield (w.heap.size + 1)) #[] #[]] ++ vs.toArray, W1, ?_, ?_, fun _ _ => trivial, ?_, fun e => (by cases e), ?_⟩
 ·rw [← hW1, hrc]; exact run_enterLoop_outer _ _ _ _ _
 ·simp only [resolve, hgv]; simp [go_sem]
 ·simp [invoke, go_sem, xb]
 have below1 : Below w.heap.size w W1 := ⟨gr1.os, gr1.tape, gr1.output, gr1.size, fun k hk => gr1.block k hk (by simp)⟩
 obtain ⟨E0, hev0, hsg0, hn0⟩ := own1
 have unt : ∀ {E1 : Env} {W : World} {k : Nat} {G : Nat → Option GObj} {o : Obj}, SimG E1 W G st.nx → NCB st.nx w.heap.size E1 W → w.heap.size ≤ k → W.heap[k]? = some o → o.isCells = false → ∀ n t, E1.T n = some t → blk t.2.2 ≠ some k := fun {E1 W k G o} hs1 hn hk' ho hf n t ht hb => by
  have hE1 : E1.nx = st.nx := hs1.nx
  have := hn n t k o (hE1 ▸ hs1.lt n t ht) ht hb ho hf
  omega
 obtain ⟨I, hI⟩ : ∃ I : FC, I = { G := J, nx := st.nx, N := N, l := w.heap.size + 1, cl := cl, J := fun k E1 W => Ev E w E1 W ∧ SimG E1 W (J k) st.nx ∧ NCB st.nx w.heap.size E1 W ∧ W.heap[w.heap.size + 1]? = some (.loop (rc .ready none)) ∧ W.heap[w.heap.size]? = some (.deferred (some [])) } := ⟨_, rfl⟩
 have hIJ : ∀ k E1 W, I.J k E1 W = (Ev E w E1 W ∧ SimG E1 W (J k) st.nx ∧ NCB st.nx w.heap.size E1 W ∧ W.heap[w.heap.size + 1]? = some (.loop (rc .ready none)) ∧ W.heap[w.heap.size]? = some (.deferred (some []))) := fun k E1 W => by rw [hI]
 have ok : I.Ok P := by
  refine ⟨fun {k E1 W} h => ?_, fun {k E1 W} h => ?_, fun {k E1 W E2 W2} h h1 h2 => ?_, ?_⟩
  ·rw [hIJ] at h; rw [hI]; exact h.2.1
  ·rw [hIJ] at h
   rw [h.1.x.F]; exact Nat.le_trans hF h.1.below.size
  ·rw [hIJ] at h ⊢
   rw [hI] at h2
   obtain ⟨q1, q2, q3, q4, q5⟩ := h
   have hE1 : E1.nx = st.nx := q2.nx
   exact ⟨q1.trans h1, h2, q3.step (by omega) q2 h1, h1.x.oth _ _ q4 (unt q2 q3 (by omega) q4 rfl), h1.x.oth _ _ q5 (unt q2 q3 (Nat.le_refl _) q5 rfl)⟩
  -- a round
  rintro k E1 W us hj hkN hcl
  rw [hIJ] at hj
  obtain ⟨hev, hs1, hn, hl, hk⟩ := hj
  have hkN' : k < N := by rw [hI] at hkN; exact hkN
  replace hcl : Rs E1 W (cl k) us := by rw [hI] at hcl; exact hcl
  have hul : us.length = pl.length := by rw [hcl.1]; exact hlen k
  have hE1 : E1.nx = st.nx := hs1.nx
  have unt : ∀ {k : Nat} {o : Obj}, w.heap.size ≤ k → W.heap[k]? = some o → o.isCells = false → ∀ n t, E1.T n = some t → blk t.2.2 ≠ some k := fun h1 h2 h3 => unt hs1 hn h1 h2 h3
  have hIl : I.l = w.heap.size + 1 := by rw [hI]
  rw [hIl]
  have hy := run_yield (P := P) (args := us.toArray) hl (by rw [hrc]; simp [hps, hul])
  rw [hrc] at hy
  refine ⟨fn, _, assign, body, hy, roundIn_of_wpIn trivial ?_⟩
  clear hy
  have ha0 : ({ tmps := (ps.zip us.toArray).foldl (fun t (p, v) => t.setIfInBounds p v) a.tmps, defers := [] } : Act) = rz pl us { tmps := a.tmps, defers := [] } := by
   rw [uay, hps]
   simp
  have hF1 : E1.F ≤ W.heap.size := by rw [hev.x.F]; exact Nat.le_trans hF hev.below.size
  have hsim := uaa pl hcl (simAt (ds := []) (k := 0) hev hs1 ⟨hF1, rfl⟩)
  rw [hu k] at hsim
  show assign.wpIn (fen (some (w.heap.size + 1))) 1 P _ { tmps := (ps.zip us.toArray).foldl (fun t (p, v) => t.setIfInBounds p v) a.tmps, defers := [] } W
  rw [ha0]
  refine wpIn_mono (round (w.heap.size + 1) k hkN' E1 W _ hsim) ?_
  rintro e a1 Wa ⟨st1, E2, q1, q2, q3⟩
  cases e with
  | normal =>
   have hla := q1.x.oth _ _ hl (unt (by omega) hl rfl)
   have hka := q1.x.oth _ _ hk (unt (Nat.le_refl _) hk rfl)
   have hlta := (Array.getElem?_eq_some_iff.1 hla).1
   refine ⟨_, run_beginRound hla (by rw [hrc]), ?_⟩
   -- the record is busy
   have unt2 : ∀ {k : Nat} {o : Obj}, w.heap.size ≤ k → W.heap[k]? = some o → o.isCells = false → ∀ n t, E2.T n = some t → blk t.2.2 ≠ some k := fun {k o} hk' ho hf n t ht hb => by
    obtain ⟨t0, h1, h2⟩ := q1.x.nb n t k o ht hb ho
    exact unt hk' ho hf n t0 h1 h2
   obtain ⟨Wb, hWb⟩ : ∃ Wb, Wa.putObj (w.heap.size + 1) (.loop { rc .ready none with state := .busy }) = Wb := ⟨_, rfl⟩
   rw [hWb]
   have grb : Wa.grownBy Wb (some (w.heap.size + 1)) := hWb ▸ grownBy_putObj' _ _ _
   have hlb : Wb.heap[w.heap.size + 1]? = some (.loop { rc .ready none with state := .busy }) := hWb ▸ World.putObj_heap_same hlta
   have hkb : Wb.heap[w.heap.size]? = some (.deferred (some [])) := (grb.block _ (Array.getElem?_eq_some_iff.1 hka).1 (by simp)).trans hka
   obtain ⟨evb, hcellb⟩ := (hev.trans q1).turn hs.g q2.g.fresh grb (fun r e => by cases e; exact ⟨by omega, _, hla, rfl⟩)
   have hblkb : ∀ n t b, E2.T n = some t → blk t.2.2 = some b → Wb.heap[b]? = Wa.heap[b]? := fun n t b ht hb => by
    refine grb.block b (q2.g.tb n t.1 t.2.1 t.2.2 b ht hb).2 fun e => ?_
    simp only [Option.some.injEq] at e
    subst e
    exact unt2 (by omega) hl rfl n t ht hb
   have gb := q2.g.heap hcellb hblkb grb.size
   have db : DefN E2 Wb st1.df a1.defers := by
    have : ∀ {ds : List Deferred}, DefOk E2 Wa ds → DefOk E2 Wb ds := by
     intro ds
     induction ds with
     | nil => exact fun h => Nat.le_trans h grb.size
     | cons d ds ih =>
      rintro ⟨⟨D', e', h1, h2, h3, h4⟩, k⟩
      refine ⟨⟨D', e', h1, (grb.block D' (Array.getElem?_eq_some_iff.1 h2).1 fun e => ?_).trans h2, h3, h4⟩, ih k⟩
      simp only [Option.some.injEq] at e
      subst e
      rw [hla] at h2; cases h2
    exact ⟨this q2.d.1, q2.d.2⟩
   have simb : Sim E2 Wb st1 a1 := ⟨db, q2.sz, fun i v hv => (q2.t i v hv).same (fun _ => Nat.le_refl _) hcellb rfl rfl, gb⟩
   have nb2 : NCB st.nx w.heap.size E2 Wb := fun n t b o hm ht hb ho hf => by
    have := hblkb n t b ht hb
    exact hn.step (by omega) hs1 q1 n t b o hm ht hb (this.symm.trans ho) hf
   have hm2 : st.nx ≤ E2.nx := hE1 ▸ q1.nx
   refine wpIn_mono (q3 E2 Wb a1 simb) ?_
   rintro e a3 W3 ⟨st', E3, r1, r2, r3⟩
   have hl3 := r1.x.oth _ _ hlb (unt2 (by omega) hl rfl)
   have hk3 := r1.x.oth _ _ hkb (unt2 (Nat.le_refl _) hk rfl)
   have nb3 := nb2.step hm2 gb r1
   have own : ∀ {Gk : Nat → Option GObj}, (∀ n o, Gk n = some o → st'.G n = some o) → (∀ n o, Gk n = some o → n < st.nx ∧ o.low st.nx) → OwnW E w Gk st.nx W3 := fun {Gk} hsub hlw =>
    ⟨E3.drop st.nx, (evb.trans r1).drop (by omega), (r2.g.weak hsub).drop hlw, fun n t b o hm ht hb ho hf => nb3 n t b o hm (by simp only [Env.drop] at ht; rw [if_pos hm] at ht; exact ht) hb ho hf⟩
   -- the end of the round
   have fin : ∀ (jump : Option Code), (Instr.endRound (w.heap.size + 1) jump).run P W3 = .ok (.bool jump.isNone) (W3.putObj (w.heap.size + 1) (.loop (rc (if jump.isNone then .ready else .done) jump))) ∧
     (W3.putObj (w.heap.size + 1) (.loop (rc (if jump.isNone then .ready else .done) jump))).heap[w.heap.size + 1]? = some (.loop (rc (if jump.isNone then .ready else .done) jump)) ∧
     (W3.putObj (w.heap.size + 1) (.loop (rc (if jump.isNone then .ready else .done) jump))).heap[w.heap.size]? = some (.deferred (some [])) := fun jump => by
    refine ⟨?_, World.putObj_heap_same (Array.getElem?_eq_some_iff.1 hl3).1, (World.putObj_heap_other (by omega)).trans hk3⟩
    have := run_endRound (P := P) jump hl3
    rw [hrc] at this ⊢
    exact this
   have keep : ∀ jump, KeepL E W (W3.putObj (w.heap.size + 1) (.loop (rc (if jump.isNone then .ready else .done) jump))) := fun jump => ⟨by
    rw [World.putObj_size]
    exact Nat.le_trans q1.below.size (Nat.le_trans grb.size r1.below.size), fun b i hi => by
    have hne : b ≠ w.heap.size + 1 := fun e => by subst e; rw [hs.g.fresh _ (by omega)] at hi; omega
    refine (World.cell?_of_block (w := W3) (World.putObj_heap_other hne)).trans ?_
    have h1 : i < E1.L b := Nat.lt_of_lt_of_le hi (hev.L b)
    have h2 : i < E2.L b := Nat.lt_of_lt_of_le h1 (q1.L b)
    exact (r1.cell b i h2).trans ((hcellb b i h2).trans (q1.cell b i h1))⟩
   cases e with
   | normal =>
    obtain ⟨h1, h2, h3⟩ := fin none
    have hjm : ∀ n o, J (k + 1) n = some o → n < st.nx ∧ o.low st.nx := hlow (hJ _)
    have hown : OwnW E w (J (k + 1)) st.nx W3 := own r3 hjm
    have hevd : Ev E w (E3.drop st.nx) W3 := (evb.trans r1).drop (by omega)
    have hsgd : SimG (E3.drop st.nx) W3 (J (k + 1)) st.nx := (r2.g.weak r3).drop hjm
    have hncd : NCB st.nx w.heap.size (E3.drop st.nx) W3 := fun n t b o hm ht hb ho hf => nb3 n t b o hm (by simp only [Env.drop] at ht; rw [if_pos hm] at ht; exact ht) hb ho hf
    obtain ⟨W4, hW4⟩ : ∃ W4, W3.putObj (w.heap.size + 1) (.loop (rc (if (none : Option Code).isNone then .ready else .done) none)) = W4 := ⟨_, rfl⟩
    have gr4 : W3.grownBy W4 (some (w.heap.size + 1)) := hW4 ▸ grownBy_putObj' _ _ _
    have hrow : ∀ r, some (w.heap.size + 1) = some r → w.heap.size ≤ r ∧ ∃ o : Obj, W3.heap[r]? = some o ∧ o.isCells = false := fun r e => by cases e; exact ⟨by omega, _, hl3, rfl⟩
    obtain ⟨ev4, hcell4⟩ := hevd.turn hs.g hsgd.fresh gr4 hrow
    have unt3 : ∀ n t b, (E3.drop st.nx).T n = some t → blk t.2.2 = some b → W4.heap[b]? = W3.heap[b]? := fun n t b ht hb => by
     refine gr4.block b (hsgd.tb n t.1 t.2.1 t.2.2 b ht hb).2 fun e => ?_
     simp only [Option.some.injEq] at e
     subst e
     have := hncd n t _ _ (hsgd.nx ▸ hsgd.lt n t ht) ht hb hl3 rfl
     omega
    have hsg4 : SimG (E3.drop st.nx) W4 (J (k + 1)) st.nx := hsgd.heap hcell4 unt3 gr4.size
    have hnc4 : NCB st.nx w.heap.size (E3.drop st.nx) W4 := fun n t b o hm ht hb ho hf => hncd n t b o hm ht hb ((unt3 n t b ht hb).symm.trans ho) hf
    rw [hW4] at h1 h2 h3
    refine ⟨_, _, h1, rfl, E3.drop st.nx, ?_, ?_⟩
    ·have t1 : EvR E1 W E2 Wb := q1.r.trans (EvR.same hcellb)
     have t2 : EvR E1 W (E3.drop st.nx) W3 := (t1.trans r1.r).drop (by omega)
     exact t2.trans (EvR.same hcell4)
    ·rw [hIJ]
     exact ⟨ev4, hsg4, hnc4, h2, h3⟩
   | _ => exact r3.elim
  | _ => exact q3.elim
 have hcall := it I (by rw [hI]) (by rw [hI]) ok (fun k => by rw [hI]; exact hJF k) (by rw [hI]; exact hnF) E0 W1 vs (by rw [hIJ]; exact ⟨hev0, hsg0, hn0, recs.1, recs.2⟩) (hvs.evr2 hev0)
 rw [show I.l = w.heap.size + 1 by rw [hI]] at hcall
 refine hcall.mono ?_
 -- behind the iterator
 rintro e W2 ⟨⟨v, rfl⟩, E1, hj⟩
 rw [hIJ] at hj
 obtain ⟨hevj, hsj, hnj, hl, hk⟩ := hj
 have hI2 : OwnW E w (J N) st.nx W2 := ⟨E1, hevj, hsj, hnj⟩
 obtain ⟨E1, hev, hs1, hn⟩ := hI2.put hs.g (by omega) hl rfl (.loop { rc .ready none with state := .exhausted })
 have hK : (W2.putObj (w.heap.size + 1) (.loop { rc .ready none with state := .exhausted })).heap[w.heap.size]? = some (.deferred (some [])) := (World.putObj_heap_other (by omega)).trans hk
 exact ⟨none, _, by have := run_endLoop (P := P) hl (by rw [hrc]; simp); rw [hrc] at this ⊢; exact this, _, E1, hev, simAt hev hs1 (marked hev (fun n t ht => hs1.nx ▸ hs1.lt n t ht) hn (Nat.le_refl _) hK), done⟩
end Go.AB
namespace Go.AB
open Go Go.RowKit
open Go.AB.Enc (cells)
open Go.PB (av aj PlaceD az bd bc bi am ah cc bg ct cw)
/-- how many readers are ahead of a side -/
def sdN (p : ah) : Nat → Nat
 | 0 => 0
 | 1 => p.firsts.length
 | _ => p.firsts.length + p.seconds.length
theorem w8 {p : ah} : ∀ {k : Nat}, k < 2 → sdN p (k + 1) = sdN p k + (da p (decide (k = 1))).length
 | 0, _ => (Nat.zero_add _).symm
 | 1, _ => rfl
 | k + 2, h => by omega
theorem uj7 {p : ah} : ∀ {k i : Nat}, k < 2 → i < (da p (decide (k = 1))).length → cn p (sdN p k + i) = n9 p (decide (k = 1)) i ∧ sdN p k + i < bw p
 | 0, i, _, h => by
  have h : i < p.firsts.length := h
  rw [show sdN p 0 + i = i from Nat.zero_add i]
  unfold cn bw
  rw [decide_eq_true h]
  exact ⟨rfl, by omega⟩
 | 1, i, _, h => by
  have h : i < p.seconds.length := h
  rw [show sdN p 1 + i = p.firsts.length + i from rfl]
  unfold cn bw
  rw [decide_eq_false (by omega), Nat.add_sub_cancel_left]
  exact ⟨rfl, by omega⟩
 | k + 2, _, h, _ => by omega
end Go.AB
namespace Go.Proofs.YtbbdginipiljdaaDoor
set_option maxRecDepth 10000
open Go Go.RowKit Go.AB
open Go.AB.Enc (cells)
open Go.PB (av aj PlaceD az bd bc bi am ah cc bg ct cw)
set_option maxHeartbeats 1000000 in
theorem uj6 (nF : Nat) (p : ah) (h : e8 p) : v8 nF em Tryd.prog 116 [.elem [.elem (jx p)]] (bw p) (fun k => [.v (.int .i64 (cn p k))]) := by
 refine uco Tryd.func116 rfl rfl fun I hN hcl ok hG hn => ?_
 simp only [Tryd.ntmps116, List.length_cons, List.length_nil, Nat.reduceAdd, Nat.reduceSub]
 have hn1 := h.nf
 have hn2 := h.ns
 refine j4 2 ?_
 refine zQ ?_
 refine og ?_
 dsimp only [FC.st]
 refine bl fun hlt => ?_
 dsimp only at hlt
 refine im ?_
 try dsimp only [St.put]
 refine bq rfl (mh (n := 6) (m := nF) rfl rfl (hG _) rfl) ?_
 refine aa rfl (f9 rfl (by constructor)) ?_
 refine io ?_
 dsimp only [St.put]
 show jn _ _ _ _ _ _ _
 refine oh ok rfl ⟨rfl, rfl, zK, zN, zS, zK⟩ ?_
 refine qq ?_
 refine j4 10 ?_
 refine zQ ?_
 refine yh (X := Nat) (fun k => k ≤ 2) (fun k => 2 - k) (fun k => [(2, .any), (3, .any), (4, .any), (5, .any), (6, .any), (7, .any), (9, .v (.int .i64 (k : Int)))]) (fun k => sdN p k) 0 rfl ?_ ?_ ?_ ?_ ?_
 ·exact Nat.zero_le _
 ·exact zF
 ·rfl
 ·rintro k hI
  exact zL
 ·rintro k hI
  dsimp only at hI ⊢
  refine j4 10 ?_
  refine zQ ?_
  refine og ?_
  dsimp only [FC.st]
  refine bl fun hlt => ?_
  dsimp only at hlt
  refine im ?_
  refine aa rfl (ci rfl rfl rfl) ?_
  refine io ?_
  dsimp only [St.put]
  show jn _ _ _ _ _ _ _
  refine oh ok rfl ⟨rfl, rfl, zK, zN, zS, zK⟩ ?_
  refine oe fun K1 hK1 => ?_
  refine td rfl (fun hc => ?_) (fun hc => ?_)
  ·replace hc := of_decide_eq_true hc
   have hk : k < 2 := by omega
   have hsl : (da p (decide (k = 1))).length ≤ 3 := by
    cases decide (k = 1)
    ·exact hn1
    ·exact hn2
   refine ta ?_
   refine hK1 _ _ ?_
   refine oe fun K2 hK2 => ?_
   refine qq ?_
   refine j4 10 ?_
   refine zQ ?_
   refine og ?_
   dsimp only [FC.st]
   refine bl fun hlt => ?_
   dsimp only at hlt
   refine im ?_
   refine aa rfl (uy (k := k) (m := 2) (sz := 3) rfl rfl rfl rfl hk (ug hk)) ?_
   try dsimp only [St.put]
   refine ae rfl (dm rfl ?_)
   try dsimp only [St.put]
   first | refine ae rfl (cp rfl rfl rfl zG rfl rfl (by rfl) ?_) | refine ae rfl (j6 rfl rfl rfl zG (by constructor) rfl zO ?_)
   refine io ?_
   dsimp only [St.put]
   show jn _ _ _ _ _ _ _
   refine vm ?_
   refine fw (i := 4) rfl zG zC ?_
   dsimp only
   refine gn [(0, none), (1, none), (2, none), (3, none), (4, none), (5, none), (8, none), (6, none), (7, none)] (fun i => [6].contains i) (fun i => [6].contains i) (fun i => [0, 3, 4, 7, 8].contains i) [] (by kernel_rfl) (by kernel_rfl) ?_
   first | refine af rfl rfl rfl rfl (bx rfl rfl rfl) ?_ | refine af rfl rfl rfl rfl (eb rfl rfl) ?_
   try dsimp only [St.put]
   first | refine aw rfl rfl rfl rfl (bn rfl rfl) ?_ | refine aw rfl rfl rfl rfl (d9 rfl rfl (Enc.len _)) ?_ | refine aw rfl rfl rfl rfl (d9 rfl rfl rfl) ?_ | refine aw rfl rfl rfl rfl (fj rfl rfl zG (by simp) (by first | rfl | assumption)) ?_ | refine aw rfl rfl rfl rfl (iu rfl rfl zG (by simp) (by rfl)) ?_ | refine aw rfl rfl rfl rfl (o5 rfl rfl zG (by simp) (by simp)) ?_ | refine aw rfl rfl rfl rfl (ke rfl rfl zG (by simp) (pm (by assumption) rfl)) ?_ | refine aw rfl rfl rfl rfl (ke rfl rfl zG (by simp) (by assumption)) ?_ | refine aw rfl rfl rfl rfl (qc rfl rfl zG (by simp) rfl (by assumption) rfl (by decide)) ?_ | refine aw rfl rfl rfl rfl (mh rfl rfl zG (by rfl)) ?_
   try dsimp only [St.put]
   first | refine aw rfl rfl rfl rfl (bn rfl rfl) ?_ | refine aw rfl rfl rfl rfl (d9 rfl rfl (Enc.len _)) ?_ | refine aw rfl rfl rfl rfl (d9 rfl rfl rfl) ?_ | refine aw rfl rfl rfl rfl (fj rfl rfl zG (by simp) (by first | rfl | assumption)) ?_ | refine aw rfl rfl rfl rfl (iu rfl rfl zG (by simp) (by rfl)) ?_ | refine aw rfl rfl rfl rfl (o5 rfl rfl zG (by simp) (by simp)) ?_ | refine aw rfl rfl rfl rfl (ke rfl rfl zG (by simp) (pm (by assumption) rfl)) ?_ | refine aw rfl rfl rfl rfl (ke rfl rfl zG (by simp) (by assumption)) ?_ | refine aw rfl rfl rfl rfl (qc rfl rfl zG (by simp) rfl (by assumption) rfl (by decide)) ?_ | refine aw rfl rfl rfl rfl (mh rfl rfl zG (by rfl)) ?_
   first | refine af rfl rfl rfl rfl (kg rfl rfl) ?_ | refine af rfl rfl rfl rfl (jy rfl rfl) ?_ | refine af rfl rfl rfl rfl (ujc rfl rfl) ?_
   first | refine af rfl rfl rfl rfl (bx rfl rfl rfl) ?_ | refine af rfl rfl rfl rfl (eb rfl rfl) ?_
   try dsimp only [St.put]
   refine aw rfl rfl rfl rfl (c := val p) (jj (cs := jx p) rfl rfl (show 4 ≤ 7 by decide)) ?_
   refine af rfl rfl rfl rfl (f9 rfl (by constructor)) ?_
   refine ji ?_
   try dsimp only [St.put]
   refine ij rfl rfl rfl rfl (ay rfl rfl rfl (n2 (decide (k = 1)) p) ?_)
   first | refine d7 rfl rfl rfl rfl (bf rfl rfl (List.length_map _)) ?_ | refine d7 rfl rfl rfl rfl (bf rfl rfl rfl) ?_ | refine d7 rfl rfl rfl rfl (sg rfl rfl) ?_ | refine d7 rfl rfl rfl rfl (ujg rfl rfl) ?_ | refine d7 rfl rfl rfl rfl (ujf rfl rfl) ?_ | refine d7 rfl rfl rfl rfl (uje rfl rfl (by omega)) ?_
   refine jh ?_
   dsimp only [St.put]
   show jn _ _ _ _ _ _ _
   refine oh ok rfl ⟨rfl, rfl, zK, zN, zS, zK⟩ ?_
   refine qq ?_
   refine j4 21 ?_
   refine zQ ?_
   refine yh (X := Nat) (fun i => i ≤ (da p (decide (k = 1))).length) (fun i => (da p (decide (k = 1))).length - i) (fun i => [(5, .any), (6, .any), (7, .any), (20, .v (.int .i64 (i : Int)))]) (fun i => sdN p k + i) 0 rfl ?_ ?_ ?_ ?_ ?_
   ·exact Nat.zero_le _
   ·exact zF
   ·rfl
   ·rintro i hI
    exact zL
   ·rintro i hJ
    dsimp only at hJ ⊢
    refine j4 21 ?_
    refine zQ ?_
    refine og ?_
    dsimp only [FC.st]
    refine bl fun hlt => ?_
    dsimp only at hlt
    refine im ?_
    refine aa rfl (ci rfl rfl rfl) ?_
    refine io ?_
    dsimp only [St.put]
    show jn _ _ _ _ _ _ _
    refine oh ok rfl ⟨rfl, rfl, zK, zN, zS, zK⟩ ?_
    refine oe fun K3 hK3 => ?_
    refine td rfl (fun hc => ?_) (fun hc => ?_)
    ·replace hc := of_decide_eq_true hc
     have hi : i < (da p (decide (k = 1))).length := by omega
     obtain ⟨hL, hN2⟩ := uj7 hk hi
     refine ta ?_
     refine hK3 _ _ ?_
     refine oe fun K4 hK4 => ?_
     refine qq ?_
     refine j4 21 ?_
     refine zQ ?_
     refine og ?_
     dsimp only [FC.st]
     refine bl fun hlt => ?_
     dsimp only at hlt
     refine im ?_
     refine aa rfl (f9 rfl (by constructor)) ?_
     refine aa rfl (fe rfl (by constructor)) ?_
     refine io ?_
     dsimp only [St.put]
     show jn _ _ _ _ _ _ _
     refine vm ?_
     refine im ?_
     try dsimp only [St.put]
     first | refine bq rfl (bn rfl rfl) ?_ | refine bq rfl (d9 rfl rfl (Enc.len _)) ?_ | refine bq rfl (d9 rfl rfl rfl) ?_ | refine bq rfl (fj rfl rfl zG trivial (by first | rfl | assumption)) ?_ | refine bq rfl (iu rfl rfl zG trivial (by rfl)) ?_ | refine bq rfl (o5 rfl rfl zG trivial (by simp)) ?_ | refine bq rfl (ke rfl rfl zG trivial (pm (by assumption) rfl)) ?_ | refine bq rfl (ke rfl rfl zG trivial (by assumption)) ?_ | refine bq rfl (qc rfl rfl zG trivial rfl (by assumption) rfl (by decide)) ?_ | refine bq rfl (mh rfl rfl zG (by rfl)) ?_
     try dsimp only [St.put]
     first | refine bq rfl (bn rfl rfl) ?_ | refine bq rfl (d9 rfl rfl (Enc.len _)) ?_ | refine bq rfl (d9 rfl rfl rfl) ?_ | refine bq rfl (fj rfl rfl zG trivial (by first | rfl | assumption)) ?_ | refine bq rfl (iu rfl rfl zG trivial (by rfl)) ?_ | refine bq rfl (o5 rfl rfl zG trivial (by simp)) ?_ | refine bq rfl (ke rfl rfl zG trivial (pm (by assumption) rfl)) ?_ | refine bq rfl (ke rfl rfl zG trivial (by assumption)) ?_ | refine bq rfl (qc rfl rfl zG trivial rfl (by assumption) rfl (by decide)) ?_ | refine bq rfl (mh rfl rfl zG (by rfl)) ?_
     refine aa rfl (f9 rfl (by constructor)) ?_
     try dsimp only [St.put]
     refine ae rfl (ay rfl rfl rfl (ua4 p (decide (k = 1)) i h hi) ?_)
     refine aa rfl (f9 rfl (by constructor)) ?_
     refine aa rfl (xx rfl rfl rfl) ?_
     refine aa rfl (xx rfl rfl rfl) ?_
     refine aa rfl (fe rfl (by constructor)) ?_
     refine aa rfl (fe rfl (by constructor)) ?_
     refine io ?_
     dsimp only [St.put]
     show jn _ _ _ _ _ _ _
     refine oh ok rfl ⟨rfl, rfl, zK, zN, zS, zK⟩ ?_
     refine oe fun K5 hK5 => ?_
     refine ucv ?_
     refine pk rfl (f9 rfl (by constructor)) ?_
     refine pk rfl (f9 rfl (by constructor)) ?_
     try dsimp only [St.put]
     refine ucy ok (by rw [hN]; exact hN2) rfl rfl rfl rfl (by rw [hcl]; show _ = [C.v (.int .i64 (cn p (sdN p k + i)))]; rw [hL]; rfl) ?_
     refine pk rfl (dp rfl rfl) ?_
     refine ucz ?_
     dsimp only [St.put]
     refine hK5 _ _ ?_
     refine td rfl (fun h => by cases h) (fun _ => ?_)
     refine ta ?_
     refine hK4 _ _ ?_
     refine j4 21 ?_
     refine zQ ?_
     refine yg ok rfl ?_
     dsimp only [FC.st]
     refine bl fun hlt => ?_
     dsimp only at hlt
     refine im ?_
     first | refine aa rfl (ca rfl rfl rfl (by omega)) ?_ | refine aa rfl (si rfl rfl rfl) ?_
     refine aa rfl (f9 rfl (by constructor)) ?_
     refine io ?_
     dsimp only [St.put]
     refine ⟨⟨rfl, rfl, zK, zN, zS, zK⟩, ?_⟩
     exact ⟨i + 1, by omega, by omega, rfl, ⟨⟨rfl, rfl⟩, zF, zB, zN, zX⟩⟩
    ·replace hc := of_decide_eq_false hc
     obtain rfl : i = (da p (decide (k = 1))).length := by omega
     refine yi ?_
     refine hK2 _ _ ?_
     refine j4 10 ?_
     refine zQ ?_
     refine yg ok rfl ?_
     dsimp only [FC.st]
     refine bl fun hlt => ?_
     dsimp only at hlt
     refine im ?_
     first | refine aa rfl (ca rfl rfl rfl (by omega)) ?_ | refine aa rfl (si rfl rfl rfl) ?_
     refine aa rfl (f9 rfl (by constructor)) ?_
     refine io ?_
     dsimp only [St.put]
     refine ⟨⟨rfl, rfl, zK, zN, zS, zK⟩, ?_⟩
     exact ⟨k + 1, by omega, by omega, (w8 hk).symm, ⟨⟨rfl, rfl⟩, zF, zB, zN, zX⟩⟩
  ·replace hc := of_decide_eq_false hc
   obtain rfl : k = 2 := by omega
   refine yi ?_
   exact ⟨.inl rfl, rfl⟩
end Go.Proofs.YtbbdginipiljdaaDoor
namespace Go.AB
open Go Go.RowKit
open Go.AB.Enc (cells)
open Go.PB (av aj PlaceD az bd bc bi am ah cc bg ct cw)
theorem ow {α : Type} (d v : α) : atE 0 d v = v := rfl
theorem kx {α : Type} {e : Int} (h : e ≠ 0) (d v : α) : atE e d v = d := by unfold atE; rw [decide_eq_false h]; rfl
theorem uci {p : ah} {e : Int} (h : e ≠ 0) : fp p e = e := by unfold fp; rw [decide_eq_false h]; rfl
theorem sq (p : ah) : fp p 0 = bif i9 p then 0 else 8 := rfl
end Go.AB
namespace Go.Proofs.YtbbdginipiljdaaDoor
set_option maxRecDepth 10000
open Go.RowKit Go.AB
open Go.AB.Enc (cells)
open Go.PB (av aj PlaceD az bd bc bi am ah cc bg ct cw)
end Go.Proofs.YtbbdginipiljdaaDoor
namespace Go.AB
open Go Go.RowKit
open Go.AB.Enc (cells)
open Go.PB (av aj PlaceD az bd bc bi am ah cc bg ct cw)
instance : FlatV bg := ⟨fun x => [.int .i64 x.lo, .int .i64 x.hi], fun _ => rfl⟩
def j3 (x : am) : Bool := decide (200 < x.found.length) || decide (200 < x.well.length)
def ni (p : ah) : Bool := mq p.text || decide (6 < p.firsts.length) || decide (6 < p.seconds.length) || decide (12 < p.pages.length) || p.pages.any j3
theorem uct {p : ah} {n : Int} {j : Nat} {x : am} (h0 : du p n = 0) (hpo : ll p n = x) (hn : n = (j : Int)) (hk : (cj p.text x).length ≠ 0) : lg p n = 0 ∧ nh p n = s9 x (cj p.text x).length := by
 have hE : lg p n = 0 := by unfold lg; rw [h0, hpo, decide_eq_false hk]; rfl
 exact ⟨hE, by unfold nh; rw [hE, hpo]; rfl⟩
end Go.AB
namespace Go.Proofs.YtbbdginipiljdaaDoor
set_option maxRecDepth 10000
open Go.RowKit Go.AB
open Go.AB.Enc (cells)
open Go.PB (av aj PlaceD az bd bc bi am ah cc bg ct cw)
theorem ufu : Tryd.prog.underlying 47 = some (.struct (Tryd.prog.fieldsOf 47)) := by kernel_rfl
theorem ugx : Tryd.prog.stoodInHeld 47 = false := by kernel_rfl
instance : EqT Tryd.prog 47 bg where
 guard op w x y xs ys := run_eqGuard_agg w op _ x y xs ys (by kernel_rfl)
 same w x y := by
  obtain ⟨a, b⟩ := x
  obtain ⟨a', b'⟩ := y
  simp only [FlatV.vals]
  rw [run_equalIn_agg _ _ _ _ _ ufu ugx]
  by_cases h1 : a = a' <;> by_cases h2 : b = b' <;> simp [go_sem, h1, h2]
theorem uhy (p : ah) : Pure Tryd.prog 10 [val p] (.v (.bool (ni p))) := by
 refine co Tryd.func10 rfl (fun m => .v) fun G nx => ?_
 simp only [Tryd.ntmps10, List.length_cons, List.length_nil, Nat.reduceAdd, Nat.reduceSub]
 refine bl fun hlt => ?_
 dsimp only at hlt
 refine yS fun _ K1 => ?_
 refine yR ?_
 try dsimp only [St.put]
 refine yB rfl rfl rfl ?_
 refine yA rfl rfl ?_
 refine yN ?_
 dsimp only [St.put]
 refine K1 _ ?_
 refine yS fun _ K2 => ?_
 refine ck 4 ?_
 refine zQ ?_
 refine ku (X := Bool) (fun d => (mq p.text || decide (6 < p.firsts.length) || decide (6 < p.seconds.length) || decide (12 < p.pages.length)) = d) (fun d => [(24, .v (.bool d))]) (fun d G' => G') rfl ?_ (fun _ _ _ _ h => .inl h) ?_ ?_
 ·rintro d hI
  exact zL
 ·refine yR ?_
  refine yF rfl rfl rfl rfl ?_
  try dsimp only [St.put]
  refine bq rfl (c := ir p.text) (jj (cs := cells p) rfl rfl (show 1 ≤ 4 by decide)) ?_
  try dsimp only [St.put]
  refine ae rfl (ay rfl rfl rfl (unl p.text) ?_)
  refine yM rfl rfl ?_
  refine ef (fun hs => ?_) (fun hs => ?_)
  ·have h1 : mq p.text = true := hs
   refine yK rfl ?_
   refine yK rfl ?_
   refine yK rfl ?_
   refine yK rfl ?_
   refine aa rfl (bk rfl rfl (by constructor)) ?_
   refine yM rfl rfl ?_
   refine yK rfl ?_
   refine yK rfl ?_
   refine yK rfl ?_
   refine yK rfl ?_
   refine aa rfl (bk rfl rfl (by constructor)) ?_
   refine yM rfl rfl ?_
   refine yK rfl ?_
   refine yK rfl ?_
   refine yK rfl ?_
   refine yK rfl ?_
   refine aa rfl (bk rfl rfl (by constructor)) ?_
   refine yN ?_
   dsimp only [St.put]
   refine ⟨_, ?_, ⟨⟨rfl, rfl⟩, zF, zB, zN, zX⟩⟩
   first
   | (simp [h1]; done)
   | (simp [h1, h2]; done)
   | (simp [h1, h2, h3]; done)
   | (simp [h1, h2, h3]; omega)
  have h1 : mq p.text = false := hs
  refine yF rfl rfl rfl rfl ?_
  refine yL rfl rfl rfl ?_
  refine aa rfl (bf rfl rfl (List.length_map _)) ?_
  refine aa rfl (gr rfl rfl rfl) ?_
  refine aa rfl (cg rfl rfl (by constructor)) ?_
  refine yM rfl rfl ?_
  refine ef (fun hs => ?_) (fun hs => ?_)
  ·have h2 : 6 < p.firsts.length := by have := of_decide_eq_true hs; omega
   refine yK rfl ?_
   refine yK rfl ?_
   refine yK rfl ?_
   refine yK rfl ?_
   refine aa rfl (bk rfl rfl (by constructor)) ?_
   refine yM rfl rfl ?_
   refine yK rfl ?_
   refine yK rfl ?_
   refine yK rfl ?_
   refine yK rfl ?_
   refine aa rfl (bk rfl rfl (by constructor)) ?_
   refine yN ?_
   dsimp only [St.put]
   refine ⟨_, ?_, ⟨⟨rfl, rfl⟩, zF, zB, zN, zX⟩⟩
   first
   | (simp [h1]; done)
   | (simp [h1, h2]; done)
   | (simp [h1, h2, h3]; done)
   | (simp [h1, h2, h3]; omega)
  have h2 : ¬ 6 < p.firsts.length := by have := of_decide_eq_false hs; omega
  refine yF rfl rfl rfl rfl ?_
  refine yL rfl rfl rfl ?_
  refine aa rfl (bf rfl rfl (List.length_map _)) ?_
  refine aa rfl (gr rfl rfl rfl) ?_
  refine aa rfl (cg rfl rfl (by constructor)) ?_
  refine yM rfl rfl ?_
  refine ef (fun hs => ?_) (fun hs => ?_)
  ·have h3 : 6 < p.seconds.length := by have := of_decide_eq_true hs; omega
   refine yK rfl ?_
   refine yK rfl ?_
   refine yK rfl ?_
   refine yK rfl ?_
   refine aa rfl (bk rfl rfl (by constructor)) ?_
   refine yN ?_
   dsimp only [St.put]
   refine ⟨_, ?_, ⟨⟨rfl, rfl⟩, zF, zB, zN, zX⟩⟩
   first
   | (simp [h1]; done)
   | (simp [h1, h2]; done)
   | (simp [h1, h2, h3]; done)
   | (simp [h1, h2, h3]; omega)
  have h3 : ¬ 6 < p.seconds.length := by have := of_decide_eq_false hs; omega
  refine yF rfl rfl rfl rfl ?_
  refine yL rfl rfl rfl ?_
  refine aa rfl (bf rfl rfl (List.length_map _)) ?_
  refine aa rfl (gr rfl rfl rfl) ?_
  refine aa rfl (cg rfl rfl (by constructor)) ?_
  refine yN ?_
  dsimp only [St.put]
  refine ⟨_, ?_, ⟨⟨rfl, rfl⟩, zF, zB, zN, zX⟩⟩
  first
  | (simp [h1]; done)
  | (simp [h1, h2]; done)
  | (simp [h1, h2, h3]; done)
  | (simp [h1, h2, h3]; omega)
 rintro d hst
 dsimp only at hst ⊢
 refine ar rfl (fun hc => ?_) (fun hc => ?_)
 ·rw [hc] at hst
  refine yS fun _ K4 => ?_
  refine yR ?_
  refine yA rfl rfl ?_
  refine yN ?_
  dsimp only [St.put]
  refine K4 _ ?_
  refine aq ?_
  refine ba rfl (by constructor) zN zS ?_
  exact vb (by unfold ni; rw [hst]; rfl)
 rw [hc] at hst
 have hpl : ¬ 12 < p.pages.length := fun h => by rw [decide_eq_true h, Bool.or_true] at hst; cases hst
 refine ax ?_
 refine K2 _ ?_
 refine yS fun _ K5 => ?_
 refine yS fun _ K6 => ?_
 refine yR ?_
 refine yA rfl rfl ?_
 refine yN ?_
 dsimp only [St.put]
 refine K6 _ ?_
 refine bh ?_
 refine ck 4 ?_
 refine zQ ?_
 refine dd (G) zX ?_
 dsimp only
 refine dc (X := Nat) (fun i => i ≤ p.pages.length ∧ ∀ x ∈ p.pages.take i, j3 x = false) (fun i => p.pages.length - i) (fun i => [(3, .v (.int .i64 (i : Int)))]) (fun i G' => G') 0 rfl ?_ ?_ (fun _ _ h => h) ?_ ?_ ?_
 ·exact ⟨Nat.zero_le _, by simp⟩
 ·exact zF
 ·rintro i hI
  exact zL
 ·exact fun _ _ _ _ h => .inl h
 rintro i hI
 dsimp only at hI ⊢
 refine yS fun _ K7 => ?_
 refine yS fun _ K8 => ?_
 refine yR ?_
 refine yM rfl rfl ?_
 refine yF rfl rfl rfl rfl ?_
 refine yL rfl rfl rfl ?_
 refine aa rfl (bf rfl rfl (List.length_map _)) ?_
 refine aa rfl (ci rfl rfl rfl) ?_
 refine yN ?_
 dsimp only [St.put]
 refine K8 _ ?_
 refine ar rfl (fun hc => ?_) (fun hc => ?_)
 ·replace hc := of_decide_eq_true hc
  obtain ⟨x, hx⟩ : ∃ x, p.pages[i]? = some x := dj (by omega)
  refine ax ?_
  refine K7 _ ?_
  refine yS fun _ K9 => ?_
  refine bh ?_
  refine yS fun _ K10 => ?_
  refine yR ?_
  refine yF rfl rfl rfl rfl ?_
  refine yL rfl rfl rfl ?_
  refine yM rfl rfl ?_
  refine aa rfl (bu rfl rfl rfl rfl (bp (by assumption)) (Enc.len _)) ?_
  refine yF rfl rfl rfl rfl ?_
  refine yL rfl rfl rfl ?_
  refine aa rfl (bf rfl rfl (List.length_map _)) ?_
  refine aa rfl (gr rfl rfl rfl) ?_
  refine yM rfl rfl ?_
  refine ef (fun hs => ?_) (fun hs => ?_)
  ·have g1 : 200 < x.found.length := by have := of_decide_eq_true hs; omega
   refine yK rfl ?_
   refine yK rfl ?_
   refine yK rfl ?_
   refine yK rfl ?_
   refine yK rfl ?_
   refine yK rfl ?_
   refine yK rfl ?_
   refine yK rfl ?_
   refine aa rfl (bk rfl rfl (by constructor)) ?_
   refine yN ?_
   dsimp only [St.put]
   refine K10 _ ?_
   refine ar rfl (fun _ => ?_) (fun h => by cases h)
   have hgx : j3 x = true := by
    first
    | (simp [j3, g1]; done)
    | (have g2 : 200 < x.well.length := by (have := of_decide_eq_true hc; omega)
       simp [j3, g2])
   refine yS fun _ K11 => ?_
   refine yR ?_
   refine yA rfl rfl ?_
   refine yN ?_
   dsimp only [St.put]
   refine K11 _ ?_
   refine aq ?_
   refine ba rfl (by constructor) zN zS ?_
   exact vb (by
    have : p.pages.any j3 = true := List.any_eq_true.2 ⟨x, ga hx, hgx⟩
    unfold ni; rw [this, Bool.or_true])
  have g1 : ¬ 200 < x.found.length := by have := of_decide_eq_false hs; omega
  refine yF rfl rfl rfl rfl ?_
  refine yL rfl rfl rfl ?_
  refine yM rfl rfl ?_
  refine aa rfl (bu rfl rfl rfl rfl (bp (by assumption)) (Enc.len _)) ?_
  refine yF rfl rfl rfl rfl ?_
  refine yL rfl rfl rfl ?_
  refine aa rfl (bf rfl rfl (List.length_map _)) ?_
  refine aa rfl (gr rfl rfl rfl) ?_
  refine aa rfl (cg rfl rfl (by constructor)) ?_
  refine yN ?_
  dsimp only [St.put]
  refine K10 _ ?_
  refine ar rfl (fun hc => ?_) (fun hc => ?_)
  ·have hgx : j3 x = true := by
    first
    | (simp [j3, g1]; done)
    | (have g2 : 200 < x.well.length := by (have := of_decide_eq_true hc; omega)
       simp [j3, g2])
   refine yS fun _ K12 => ?_
   refine yR ?_
   refine yA rfl rfl ?_
   refine yN ?_
   dsimp only [St.put]
   refine K12 _ ?_
   refine aq ?_
   refine ba rfl (by constructor) zN zS ?_
   exact vb (by
    have : p.pages.any j3 = true := List.any_eq_true.2 ⟨x, ga hx, hgx⟩
    unfold ni; rw [this, Bool.or_true])
  have hgx : j3 x = false := by
   have g2 : ¬ 200 < x.well.length := by (have := of_decide_eq_false hc; omega)
   simp [j3, g1, g2]
  refine ax ?_
  refine K9 _ ?_
  refine yR ?_
  refine yM rfl rfl ?_
  refine aa rfl (ca rfl rfl rfl (by omega)) ?_
  refine yA rfl rfl ?_
  refine yN ?_
  dsimp only [St.put]
  exact ⟨i + 1, by omega, ⟨by omega, ub6 (p := fun x : am => j3 x = false) hx hgx hI.2⟩, ⟨⟨rfl, rfl⟩, zF, zB, zN, zX⟩⟩
 replace hc := of_decide_eq_false hc
 have hall := hI.2
 rw [gg (show p.pages.length ≤ i by omega)] at hall
 refine c5 ?_
 refine K5 _ ?_
 refine yS fun _ K13 => ?_
 refine yR ?_
 refine yA rfl rfl ?_
 refine yN ?_
 dsimp only [St.put]
 refine K13 _ ?_
 refine aq ?_
 refine ba rfl (by constructor) zN zS ?_
 exact vb (by
  have : p.pages.any j3 = false := List.any_eq_false.2 fun x hx => by rw [hall x hx]; simp
  unfold ni; rw [hst, this]; rfl)
end Go.Proofs.YtbbdginipiljdaaDoor
namespace Go.AB
open Go Go.RowKit
open Go.AB.Enc (cells)
open Go.PB (av aj PlaceD az bd bc bi am ah cc bg ct cw)
def pgC (p : ah) (n : Int) : C := bif decide (du p n = 0) then jd p else .v (.pointer none)
theorem uh3 (m : Nat) (p : ah) (n : Int) : C.low m (pgC p n) := by
 unfold pgC
 cases decide (du p n = 0)
 ·exact .v
 exact ubn m p
theorem ua2 {p : ah} {n : Int} (h : du p n ≠ 0) : pgC p n = .v (.pointer none) := by unfold pgC; rw [decide_eq_false h]; rfl
theorem r5 {p : ah} {n : Int} (h : du p n = 0) : pgC p n = .elem [lst p.text, lst p.firsts, lst p.seconds, lst p.pages, lst (p.pages.map fun x => (er p.text x : Int)), lst (p.pages.map (dn p.text)), lst (p.pages.map (cj p.text))] := by
 unfold pgC
 rw [decide_eq_true h, cond_true, uu (pt h).1]
theorem qk {α β : Type} {l : List α} {k : Nat} {x : α} (f : α → β) (h : l[k]? = some x) : (l.map f)[k]? = some (f x) := by rw [List.getElem?_map, h]; rfl
end Go.AB
namespace Go.Proofs.YtbbdginipiljdaaDoor
set_option maxRecDepth 10000
open Go Go.RowKit Go.AB
open Go.AB.Enc (cells)
open Go.PB (av aj PlaceD az bd bc bi am ah cc bg ct cw)
theorem ugw (m : Nat) (b : Bool) : ∀ c ∈ m4 b, C.low m c := fun c hc => by
 simp only [List.mem_cons, List.not_mem_nil, or_false] at hc
 rcases hc with rfl | rfl | rfl <;> exact .fn (by simp)
theorem qf (n : Nat) (p : ah) (m : Int) : ep n em Tryd.prog 41 [val p, .v (.int .i64 m)] (.tup [pgC p m, .v (.int .i64 (du p m))]) := fun G nx hF hnx => by
 refine ie (G) (nx) Tryd.func41 rfl (.tup (bv (uh3 _ _ _) (bv .v cv))) zN (fun hlt => zH) ?_
 simp only [Tryd.ntmps41, List.length_cons, List.length_nil, Nat.reduceAdd, Nat.reduceSub]
 refine bl fun hlt => ?_
 dsimp only at hlt
 refine yS fun _ K1 => ?_
 refine yR ?_
 try dsimp only [St.put]
 refine yB rfl rfl rfl ?_
 refine yA rfl rfl ?_
 refine yA rfl rfl ?_
 refine yN ?_
 dsimp only [St.put]
 refine K1 _ ?_
 refine yS fun _ K2 => ?_
 refine yR ?_
 refine yE rfl rfl rfl ?_
 try dsimp only [St.put]
 refine ae rfl (dr rfl rfl rfl (m9 n p) zG (by dsimp only [St.put]; omega) ?_)
 refine yM rfl rfl ?_
 refine yX rfl rfl rfl rfl ?_
 refine yX rfl rfl rfl rfl ?_
 refine yA rfl rfl ?_
 refine yA rfl rfl ?_
 refine yN ?_
 dsimp only [St.put]
 refine K2 _ ?_
 refine yS fun _ K3 => ?_
 refine yS fun _ K4 => ?_
 refine yR ?_
 refine yM rfl rfl ?_
 refine aa rfl (fm rfl rfl rfl) ?_
 refine yN ?_
 dsimp only [St.put]
 refine K4 _ ?_
 refine ar rfl (fun hc => ?_) (fun hc => ?_)
 ·have h0 : ce p ≠ 0 := jm hc
  have hE : du p m = ce p := by simp [du, h0]
  refine yS fun _ K5 => ?_
  refine yR ?_
  refine yM rfl rfl ?_
  refine yA rfl rfl ?_
  refine yA rfl rfl ?_
  refine yN ?_
  dsimp only [St.put]
  refine K5 _ ?_
  refine aq ?_
  refine jq rfl (by constructor) (by constructor) zN zS ?_ ?_
  ·rw [ua2 (by rw [hE]; exact h0)]
  rw [hE]
 have h0 : ce p = 0 := gp hc
 have hnp := (l5 h0).1.np
 refine ax ?_
 refine K3 _ ?_
 refine yS fun _ K6 => ?_
 refine yS fun _ K7 => ?_
 refine yR ?_
 refine yF rfl rfl rfl rfl ?_
 refine yL rfl rfl rfl ?_
 refine aa rfl (bf rfl rfl (List.length_map _)) ?_
 refine aa rfl (gq rfl rfl rfl (by omega)) ?_
 refine yM rfl rfl ?_
 try dsimp only [St.put]
 refine ae rfl (dl rfl rfl rfl (by decide) (by decide) zR (by decide) ?_)
 try dsimp only [St.put]
 refine ae rfl (ay rfl rfl rfl (mj _ _ [_]) ?_)
 refine aa rfl (dp rfl rfl) ?_
 refine yN ?_
 dsimp only [St.put]
 refine K7 _ ?_
 refine ar rfl (fun hc => ?_) (fun hc => ?_)
 ·have h1 : inB m 0 ((p.pages.length : Int) - 1) = false := by rw [fq] at hc; simpa using hc
  have hE : du p m = 2 := by simp [du, h0, h1]
  refine yS fun _ K8 => ?_
  refine yR ?_
  refine yA rfl rfl ?_
  refine yA rfl rfl ?_
  refine yN ?_
  dsimp only [St.put]
  refine K8 _ ?_
  refine aq ?_
  refine jq rfl (by constructor) (by constructor) zN zS ?_ ?_
  ·rw [ua2 (by rw [hE]; decide)]
  rw [hE]
 have h1 : inB m 0 ((p.pages.length : Int) - 1) = true := by rw [fq] at hc; simpa using hc
 have hE : du p m = 0 := by simp [du, h0, h1]
 refine ax ?_
 refine K6 _ ?_
 refine yS fun _ K9 => ?_
 refine yR ?_
 refine yM rfl rfl ?_
 refine yA rfl rfl ?_
 refine yA rfl rfl ?_
 refine yN ?_
 dsimp only [St.put]
 refine K9 _ ?_
 refine aq ?_
 refine jq rfl (by constructor) (by constructor) zN zS ?_ ?_
 ·unfold pgC; rw [decide_eq_true hE]; rfl
 rw [hE]
theorem uh9 (n : Nat) (p : ah) (m : Int) : ep n em Tryd.prog 12 [val p, .v (.int .i64 m)] (.tup [.v (.int .i64 (o4 p m)), .v (.int .i64 (du p m))]) := fun G nx hF hnx => by
 refine ie (G) (nx) Tryd.func12 rfl (.tup (bv .v (bv .v cv))) zN (fun hlt => zH) ?_
 simp only [Tryd.ntmps12, List.length_cons, List.length_nil, Nat.reduceAdd, Nat.reduceSub]
 refine bl fun hlt => ?_
 dsimp only at hlt
 refine yS fun _ K1 => ?_
 refine yR ?_
 try dsimp only [St.put]
 refine yB rfl rfl rfl ?_
 refine yA rfl rfl ?_
 refine yA rfl rfl ?_
 refine yN ?_
 dsimp only [St.put]
 refine K1 _ ?_
 refine yS fun _ K2 => ?_
 refine yR ?_
 refine yE rfl rfl rfl ?_
 refine yM rfl rfl ?_
 try dsimp only [St.put]
 refine ae rfl (dr rfl rfl rfl (qf n p m) zG (by dsimp only [St.put]; omega) ?_)
 refine yM rfl rfl ?_
 refine yX rfl rfl rfl rfl ?_
 refine yX rfl rfl rfl rfl ?_
 refine yA rfl rfl ?_
 refine yA rfl rfl ?_
 refine yN ?_
 dsimp only [St.put]
 refine K2 _ ?_
 refine yS fun _ K3 => ?_
 refine yS fun _ K4 => ?_
 refine yR ?_
 refine yM rfl rfl ?_
 refine aa rfl (fm rfl rfl rfl) ?_
 refine yN ?_
 dsimp only [St.put]
 refine K4 _ ?_
 refine ar rfl (fun hc => ?_) (fun hc => ?_)
 ·have h0 : du p m ≠ 0 := jm hc
  have hV : o4 p m = 0 := by unfold o4; rw [kx h0]
  refine yS fun _ K5 => ?_
  refine yR ?_
  refine yM rfl rfl ?_
  refine yA rfl rfl ?_
  refine yA rfl rfl ?_
  refine yN ?_
  dsimp only [St.put]
  refine K5 _ ?_
  refine aq ?_
  refine jq rfl (by constructor) (by constructor) zN zS ?_ ?_
  ·exact vi hV.symm
  rfl
 have h0 : du p m = 0 := gp hc
 obtain ⟨hc0, j, x, rfl, hx, hpo⟩ := pt h0
 have hw := qk (fun x => (er p.text x : Int)) hx
 have hV : o4 p (j : Int) = (er p.text x : Int) := by unfold o4; rw [h0, hpo]; rfl
 rw [r5 h0]
 refine ax ?_
 refine K3 _ ?_
 refine yS fun _ K6 => ?_
 refine yR ?_
 refine yM rfl rfl ?_
 refine aa rfl (kg rfl rfl) ?_
 refine yF rfl rfl rfl rfl ?_
 refine yL rfl rfl rfl ?_
 refine yM rfl rfl ?_
 refine aa rfl (bu rfl rfl rfl rfl (bp (by assumption)) (Enc.len _)) ?_
 refine yL rfl rfl rfl ?_
 refine yA rfl rfl ?_
 refine yA rfl rfl ?_
 refine yN ?_
 dsimp only [St.put]
 refine K6 _ ?_
 refine aq ?_
 refine jq rfl (by constructor) (by constructor) zN zS ?_ ?_
 ·exact vi hV.symm
 exact vi h0.symm
theorem ubb (n : Nat) (p : ah) (m : Int) : ep n em Tryd.prog 14 [val p, .v (.int .i64 m)] (.tup [lst (om p m), .v (.int .i64 (du p m))]) := fun G nx hF hnx => by
 refine ie (G) (nx) Tryd.func14 rfl (.tup (bv (bj _ _) (bv .v cv))) zN (fun hlt => zH) ?_
 simp only [Tryd.ntmps14, List.length_cons, List.length_nil, Nat.reduceAdd, Nat.reduceSub]
 refine bl fun hlt => ?_
 dsimp only at hlt
 refine yS fun _ K1 => ?_
 refine yR ?_
 try dsimp only [St.put]
 refine yB rfl rfl rfl ?_
 refine yA rfl rfl ?_
 refine yA rfl rfl ?_
 refine yN ?_
 dsimp only [St.put]
 refine K1 _ ?_
 refine yS fun _ K2 => ?_
 refine yR ?_
 refine yE rfl rfl rfl ?_
 refine yM rfl rfl ?_
 try dsimp only [St.put]
 refine ae rfl (dr rfl rfl rfl (qf n p m) zG (by dsimp only [St.put]; omega) ?_)
 refine yM rfl rfl ?_
 refine yX rfl rfl rfl rfl ?_
 refine yX rfl rfl rfl rfl ?_
 refine yA rfl rfl ?_
 refine yA rfl rfl ?_
 refine yN ?_
 dsimp only [St.put]
 refine K2 _ ?_
 refine yS fun _ K3 => ?_
 refine yS fun _ K4 => ?_
 refine yR ?_
 refine yM rfl rfl ?_
 refine aa rfl (fm rfl rfl rfl) ?_
 refine yN ?_
 dsimp only [St.put]
 refine K4 _ ?_
 refine ar rfl (fun hc => ?_) (fun hc => ?_)
 ·have h0 : du p m ≠ 0 := jm hc
  have hV : om p m = [] := by unfold om; rw [kx h0]
  refine yS fun _ K5 => ?_
  refine yR ?_
  refine yM rfl rfl ?_
  refine yA rfl rfl ?_
  refine yA rfl rfl ?_
  refine yN ?_
  dsimp only [St.put]
  refine K5 _ ?_
  refine aq ?_
  refine gl rfl (dq (by constructor)) (dq (by constructor)) zN zS ?_ ?_
  ·rw [hV]; exact zW
  exact zW
 have h0 : du p m = 0 := gp hc
 obtain ⟨hc0, j, x, rfl, hx, hpo⟩ := pt h0
 have hw := qk (dn p.text) hx
 have hV : om p (j : Int) = dn p.text x := by unfold om; rw [h0, hpo]; rfl
 rw [r5 h0]
 refine ax ?_
 refine K3 _ ?_
 refine yS fun _ K6 => ?_
 refine yR ?_
 refine yM rfl rfl ?_
 refine aa rfl (kg rfl rfl) ?_
 refine yF rfl rfl rfl rfl ?_
 refine yL rfl rfl rfl ?_
 refine yM rfl rfl ?_
 refine aa rfl (bu rfl rfl rfl rfl (bp (by assumption)) (Enc.len _)) ?_
 refine yL rfl rfl rfl ?_
 refine yA rfl rfl ?_
 refine yA rfl rfl ?_
 refine yN ?_
 dsimp only [St.put]
 refine K6 _ ?_
 refine aq ?_
 refine gl rfl (dq (by constructor)) (dq (by constructor)) zN zS ?_ ?_
 ·rw [hV]; exact zW
 rw [h0]; exact zW
theorem ubc (n : Nat) (p : ah) (m : Int) : ep n em Tryd.prog 19 [val p, .v (.int .i64 m)] (.tup [lst (ou p m), .v (.int .i64 (du p m))]) := fun G nx hF hnx => by
 refine ie (G) (nx) Tryd.func19 rfl (.tup (bv (bj _ _) (bv .v cv))) zN (fun hlt => zH) ?_
 simp only [Tryd.ntmps19, List.length_cons, List.length_nil, Nat.reduceAdd, Nat.reduceSub]
 refine bl fun hlt => ?_
 dsimp only at hlt
 refine yS fun _ K1 => ?_
 refine yR ?_
 try dsimp only [St.put]
 refine yB rfl rfl rfl ?_
 refine yA rfl rfl ?_
 refine yA rfl rfl ?_
 refine yN ?_
 dsimp only [St.put]
 refine K1 _ ?_
 refine yS fun _ K2 => ?_
 refine yR ?_
 refine yE rfl rfl rfl ?_
 refine yM rfl rfl ?_
 try dsimp only [St.put]
 refine ae rfl (dr rfl rfl rfl (qf n p m) zG (by dsimp only [St.put]; omega) ?_)
 refine yM rfl rfl ?_
 refine yX rfl rfl rfl rfl ?_
 refine yX rfl rfl rfl rfl ?_
 refine yA rfl rfl ?_
 refine yA rfl rfl ?_
 refine yN ?_
 dsimp only [St.put]
 refine K2 _ ?_
 refine yS fun _ K3 => ?_
 refine yS fun _ K4 => ?_
 refine yR ?_
 refine yM rfl rfl ?_
 refine aa rfl (fm rfl rfl rfl) ?_
 refine yN ?_
 dsimp only [St.put]
 refine K4 _ ?_
 refine ar rfl (fun hc => ?_) (fun hc => ?_)
 ·have h0 : du p m ≠ 0 := jm hc
  have hV : ou p m = [] := by unfold ou; rw [kx h0]
  refine yS fun _ K5 => ?_
  refine yR ?_
  refine yM rfl rfl ?_
  refine yA rfl rfl ?_
  refine yA rfl rfl ?_
  refine yN ?_
  dsimp only [St.put]
  refine K5 _ ?_
  refine aq ?_
  refine gl rfl (dq (by constructor)) (dq (by constructor)) zN zS ?_ ?_
  ·rw [hV]; exact zW
  exact zW
 have h0 : du p m = 0 := gp hc
 obtain ⟨hc0, j, x, rfl, hx, hpo⟩ := pt h0
 have hw := qk (cj p.text) hx
 have hV : ou p (j : Int) = cj p.text x := by unfold ou; rw [h0, hpo]; rfl
 rw [r5 h0]
 refine ax ?_
 refine K3 _ ?_
 refine yS fun _ K6 => ?_
 refine yR ?_
 refine yM rfl rfl ?_
 refine aa rfl (kg rfl rfl) ?_
 refine yF rfl rfl rfl rfl ?_
 refine yL rfl rfl rfl ?_
 refine yM rfl rfl ?_
 refine aa rfl (bu rfl rfl rfl rfl (bp (by assumption)) (Enc.len _)) ?_
 refine yL rfl rfl rfl ?_
 refine yA rfl rfl ?_
 refine yA rfl rfl ?_
 refine yN ?_
 dsimp only [St.put]
 refine K6 _ ?_
 refine aq ?_
 refine gl rfl (dq (by constructor)) (dq (by constructor)) zN zS ?_ ?_
 ·rw [hV]; exact zW
 rw [h0]; exact zW
theorem uio (n : Nat) (p : ah) (b : Bool) (m : Int) : ep n em Tryd.prog 21 [val p, .v (.bool b), .v (.int .i64 m)] (.tup [.v (.int .i64 (nm p b m)), .v (.int .i64 (jw p b m))]) := fun G nx hF hnx => by
 refine ie (G) (nx) Tryd.func21 rfl (.tup (bv .v (bv .v cv))) zN (fun hlt => zH) ?_
 simp only [Tryd.ntmps21, List.length_cons, List.length_nil, Nat.reduceAdd, Nat.reduceSub]
 refine bl fun hlt => ?_
 dsimp only at hlt
 refine yS fun _ K1 => ?_
 refine yR ?_
 try dsimp only [St.put]
 refine yB rfl rfl rfl ?_
 refine yA rfl rfl ?_
 refine yA rfl rfl ?_
 refine yN ?_
 dsimp only [St.put]
 refine K1 _ ?_
 refine yS fun _ K2 => ?_
 refine yR ?_
 refine yE rfl rfl rfl ?_
 try dsimp only [St.put]
 refine ae rfl (dr rfl rfl rfl (m9 n p) zG (by dsimp only [St.put]; omega) ?_)
 refine yM rfl rfl ?_
 refine yX rfl rfl rfl rfl ?_
 refine yX rfl rfl rfl rfl ?_
 refine yA rfl rfl ?_
 refine yA rfl rfl ?_
 refine yN ?_
 dsimp only [St.put]
 refine K2 _ ?_
 refine yS fun _ K3 => ?_
 refine yS fun _ K4 => ?_
 refine yR ?_
 refine yM rfl rfl ?_
 refine aa rfl (fm rfl rfl rfl) ?_
 refine yN ?_
 dsimp only [St.put]
 refine K4 _ ?_
 refine ar rfl (fun hc => ?_) (fun hc => ?_)
 ·have h0 : ce p ≠ 0 := jm hc
  have hE : jw p b m = ce p := by simp [jw, h0]
  refine yS fun _ K5 => ?_
  refine yR ?_
  refine yM rfl rfl ?_
  refine yA rfl rfl ?_
  refine yA rfl rfl ?_
  refine yN ?_
  dsimp only [St.put]
  refine K5 _ ?_
  refine aq ?_
  refine jq rfl (by constructor) (by constructor) zN zS ?_ ?_
  ·exact vi (by simp [nm, atE, hE, h0])
  exact vi hE.symm
 have h0 : ce p = 0 := gp hc
 obtain ⟨hok, _⟩ := l5 h0
 have hn1 := hok.nf
 have hn2 := hok.ns
 have hsl : (da p b).length ≤ 3 := by
  cases b
  ·exact hn1
  exact hn2
 rw [uu h0]
 refine ax ?_
 refine K3 _ ?_
 refine yS fun _ K6 => ?_
 refine yR ?_
 try dsimp only [St.put]
 refine aa rfl (ub0 (j := n) (k := 0) (m := 2) (sz := 3) rfl rfl zG rfl rfl (by decide) rfl) ?_
 try dsimp only [St.put]
 refine bq rfl (c := .agg (m4 false)) (jj (cs := sidL) rfl rfl (show 3 ≤ 6 by decide)) ?_
 try dsimp only [St.put]
 refine ae rfl (dm rfl ?_)
 try dsimp only [St.put]
 refine ae rfl (cp rfl rfl rfl zG rfl rfl (by rfl) ?_)
 refine yN ?_
 dsimp only [St.put]
 refine K6 _ ?_
 refine ck 13 ?_
 refine zQ ?_
 refine ku (X := Nat) (fun wv => True) (fun wv => []) (fun wv G' => ak G nx (.box wv (m4 b))) rfl ?_ ?_ ?_ ?_
 ·rintro wv hI
  exact zL
 ·rintro wv hI
  exact (by (repeat' (refine ki ?_ (by (try dsimp only); omega) ?_)); all_goals (first | exact kj zS | (repeat' (first | exact trivial | refine ⟨?_, ?_⟩ | exact .v | exact .any | refine .elem ?_ | exact bj _ _ | exact et _ _ | exact dv _ _ | exact ey _ (by (try dsimp only); omega) | exact .box (by (try dsimp only); omega) | exact el | exact cv | exact ugw _ _ | refine fb ?_ ?_ | exact .arr (by (try dsimp only); omega) | exact .own (by (try dsimp only); omega) | exact .map (by (try dsimp only); omega) | exact d8 _ | refine bv ?_ ?_ | exact bj _ _))))
 ·refine yS fun _ K8 => ?_
  refine yR ?_
  refine yM rfl rfl ?_
  refine yN ?_
  dsimp only [St.put]
  refine K8 _ ?_
  refine ar rfl (fun hc => ?_) (fun hc => ?_)
  ·obtain rfl : b = true := hc
   have hyes : True := trivial
   refine yR ?_
   try dsimp only [St.put]
   refine aa rfl (ub0 (j := n) (k := 1) (m := 2) (sz := 3) rfl rfl zG rfl rfl (by decide) rfl) ?_
   try dsimp only [St.put]
   refine bq rfl (d9 rfl rfl rfl) ?_
   try dsimp only [St.put]
   refine ae rfl (cp rfl rfl rfl zG rfl rfl (by rfl) ?_)
   refine yN ?_
   dsimp only [St.put]
   first
   | exact ⟨1 + 1, hyes, ⟨⟨rfl, rfl⟩, zF, zB, zN, zX⟩⟩
   | exact ⟨1, hno, ⟨⟨rfl, rfl⟩, zF, zB, zN, zX⟩⟩
  obtain rfl : b = false := hc
  have hno : True := trivial
  refine ax ?_
  first
  | exact ⟨1 + 1, hyes, ⟨⟨rfl, rfl⟩, zF, zB, zN, zX⟩⟩
  | exact ⟨1, hno, ⟨⟨rfl, rfl⟩, zF, zB, zN, zX⟩⟩
 rintro wv hI
 dsimp only at hI ⊢
 refine yS fun _ K9 => ?_
 refine yS fun _ K10 => ?_
 refine yR ?_
 refine aa rfl (eb rfl rfl) ?_
 try dsimp only [St.put]
 refine bq rfl (fj rfl rfl zG trivial (by first | rfl | assumption)) ?_
 refine yE rfl rfl rfl ?_
 try dsimp only [St.put]
 refine ae rfl (ay rfl rfl rfl (n2 b p) ?_)
 refine aa rfl (bf rfl rfl (List.length_map _)) ?_
 refine aa rfl (gq rfl rfl rfl (by omega)) ?_
 refine yM rfl rfl ?_
 try dsimp only [St.put]
 refine ae rfl (dl rfl rfl rfl (by decide) (by decide) zR (by decide) ?_)
 try dsimp only [St.put]
 refine ae rfl (ay rfl rfl rfl (mj _ _ [_]) ?_)
 refine aa rfl (dp rfl rfl) ?_
 refine yN ?_
 dsimp only [St.put]
 refine K10 _ ?_
 refine ar rfl (fun hc => ?_) (fun hc => ?_)
 ·have h1 : inB m 0 (((da p b).length : Int) - 1) = false := by rw [fq] at hc; simpa using hc
  have hE : jw p b m = 2 := by simp [jw, h0, h1]
  refine yS fun _ K11 => ?_
  refine yR ?_
  refine yA rfl rfl ?_
  refine yA rfl rfl ?_
  refine yN ?_
  dsimp only [St.put]
  refine K11 _ ?_
  refine aq ?_
  refine jq rfl (by constructor) (by constructor) zN zS ?_ ?_
  ·exact vi (by simp [nm, atE, hE])
  exact vi hE.symm
 have h1 : inB m 0 (((da p b).length : Int) - 1) = true := by rw [fq] at hc; simpa using hc
 have hE : jw p b m = 0 := by simp [jw, h0, h1]
 obtain ⟨j, hj⟩ : ∃ j : Nat, m = (j : Int) := ⟨m.toNat, by have := inB_true.1 h1; omega⟩
 subst hj
 have hjl : j < (da p b).length := by have := inB_true.1 h1; omega
 have hV : nm p b (j : Int) = nt p b j := by simp [nm, atE, hE]
 refine ax ?_
 refine K9 _ ?_
 refine yS fun _ K12 => ?_
 refine yR ?_
 refine yM rfl rfl ?_
 try dsimp only [St.put]
 refine bq rfl (iu rfl rfl zG trivial (by rfl)) ?_
 refine yM rfl rfl ?_
 try dsimp only [St.put]
 refine ae rfl (ay rfl rfl rfl (ua4 p b j hok hjl) ?_)
 refine yM rfl rfl ?_
 refine yX rfl rfl rfl rfl ?_
 refine yX rfl rfl rfl rfl ?_
 refine yA rfl rfl ?_
 refine yA rfl rfl ?_
 refine yN ?_
 dsimp only [St.put]
 refine K12 _ ?_
 refine yS fun _ K13 => ?_
 refine yR ?_
 refine yM rfl rfl ?_
 refine yA rfl rfl ?_
 refine yA rfl rfl ?_
 refine yN ?_
 dsimp only [St.put]
 refine K13 _ ?_
 refine aq ?_
 refine jq rfl (by constructor) (by constructor) zN zS ?_ ?_
 ·exact vi hV.symm
 exact vi hE.symm
theorem uba (n : Nat) (p : ah) (m : Int) : ep n em Tryd.prog 23 [val p, .v (.int .i64 m)] (.tup [val (nh p m), .v (.int .i64 (lg p m))]) := fun G nx hF hnx => by
 refine ie (G) (nx) Tryd.func23 rfl (.tup (bv (dv _ _) (bv .v cv))) zN (fun hlt => zH) ?_
 simp only [Tryd.ntmps23, List.length_cons, List.length_nil, Nat.reduceAdd, Nat.reduceSub]
 refine bl fun hlt => ?_
 dsimp only at hlt
 refine yS fun _ K1 => ?_
 refine yR ?_
 try dsimp only [St.put]
 refine yB rfl rfl rfl ?_
 try dsimp only [St.put]
 refine ae rfl (dm rfl ?_)
 refine yA rfl rfl ?_
 refine yN ?_
 dsimp only [St.put]
 refine K1 _ ?_
 refine yS fun _ K2 => ?_
 refine yR ?_
 refine yE rfl rfl rfl ?_
 refine yM rfl rfl ?_
 try dsimp only [St.put]
 refine ae rfl (dr rfl rfl rfl (qf n p m) zG (by dsimp only [St.put]; omega) ?_)
 refine yM rfl rfl ?_
 refine yX rfl rfl rfl rfl ?_
 refine yX rfl rfl rfl rfl ?_
 refine yA rfl rfl ?_
 refine yA rfl rfl ?_
 refine yN ?_
 dsimp only [St.put]
 refine K2 _ ?_
 refine yS fun _ K3 => ?_
 refine yS fun _ K4 => ?_
 refine yR ?_
 refine yM rfl rfl ?_
 refine aa rfl (fm rfl rfl rfl) ?_
 refine yN ?_
 dsimp only [St.put]
 refine K4 _ ?_
 refine ar rfl (fun hc => ?_) (fun hc => ?_)
 ·have h0 : du p m ≠ 0 := jm hc
  have hE : lg p m = du p m := by unfold lg; rw [decide_eq_false h0]; rfl
  have hV : nh p m = ⟨0, 0⟩ := by unfold nh; rw [hE, kx h0]
  refine yS fun _ K5 => ?_
  refine yR ?_
  refine aa rfl (gt rfl rfl) ?_
  refine yM rfl rfl ?_
  try dsimp only [St.put]
  refine ae rfl (cp rfl rfl rfl zG rfl rfl (by rfl) ?_)
  refine yA rfl rfl ?_
  refine yN ?_
  dsimp only [St.put]
  refine K5 _ ?_
  refine aq ?_
  refine gl rfl (jo rfl zG (by rfl) zC rfl) (dq (by constructor)) zN zS ?_ ?_
  ·rw [hV]; exact zW
  rw [hE]; exact zW
 have h0 : du p m = 0 := gp hc
 obtain ⟨hc0, j, x, rfl, hx, hpo⟩ := pt h0
 obtain ⟨hok, _⟩ := l5 hc0
 have hp := pageB_true.1 (hok.page j x hx)
 have hal := ox hok.text
 have hfl := ms hp.found
 have hwl := ms hp.well
 have hbl := yy p.text x
 have hw := qk (cj p.text) hx
 rw [r5 h0]
 refine ax ?_
 refine K3 _ ?_
 refine yS fun _ K6 => ?_
 refine yR ?_
 refine yM rfl rfl ?_
 refine aa rfl (kg rfl rfl) ?_
 refine yF rfl rfl rfl rfl ?_
 refine yL rfl rfl rfl ?_
 refine yM rfl rfl ?_
 refine aa rfl (bu rfl rfl rfl rfl (bp (by assumption)) (Enc.len _)) ?_
 refine yL rfl rfl rfl ?_
 refine aa rfl (bf rfl rfl (List.length_map _)) ?_
 refine yA rfl rfl ?_
 refine yN ?_
 dsimp only [St.put]
 refine K6 _ ?_
 refine yS fun _ K7 => ?_
 refine yS fun _ K8 => ?_
 refine yR ?_
 refine yM rfl rfl ?_
 refine aa rfl (ec rfl rfl rfl) ?_
 refine yN ?_
 dsimp only [St.put]
 refine K8 _ ?_
 refine ar rfl (fun hc => ?_) (fun hc => ?_)
 ·have hk : (cj p.text x).length = 0 := by have := of_decide_eq_true hc; omega
  have hE : lg p (j : Int) = 6 := by unfold lg; rw [h0, hpo, decide_eq_true hk]; rfl
  have hV : nh p (j : Int) = ⟨0, 0⟩ := by unfold nh; rw [hE, kx (by decide)]
  refine yS fun _ K9 => ?_
  refine yR ?_
  refine aa rfl (gt rfl rfl) ?_
  try dsimp only [St.put]
  refine ae rfl (cp rfl rfl rfl zG rfl rfl (by rfl) ?_)
  refine yA rfl rfl ?_
  refine yN ?_
  dsimp only [St.put]
  refine K9 _ ?_
  refine aq ?_
  refine gl rfl (jo rfl zG (by rfl) zC rfl) (dq (by constructor)) zN zS ?_ ?_
  ·rw [hV]; exact zW
  rw [hE]; exact zW
 have hk : ¬ (cj p.text x).length = 0 := by have := of_decide_eq_false hc; omega
 obtain ⟨hE, hV⟩ := uct h0 hpo rfl hk
 have hfw : x.found.length * x.well.length ≤ 600 * 600 := Nat.mul_le_mul (by omega) (by omega)
 have hfc := Int.natCast_mul x.found.length x.well.length
 have hjl := (List.getElem?_eq_some_iff.1 hx).1
 refine ax ?_
 refine K7 _ ?_
 refine yS fun _ K10 => ?_
 refine gn [(0, none), (1, none), (2, none), (3, none), (4, none), (5, none), (6, none), (7, none), (8, none), (9, none), (10, none), (11, none), (12, none), (13, none), (14, none), (15, none)] (fun i => [].contains i) (fun i => [].contains i) (fun i => [0, 2, 3, 4, 6, 7, 9, 10, 11, 13, 14, 15].contains i) [] (by kernel_rfl) (by kernel_rfl) ?_
 refine af rfl rfl rfl rfl (bx rfl rfl rfl) ?_
 try dsimp only [St.put]
 refine aw rfl rfl rfl rfl (bn rfl rfl) ?_
 refine xM rfl rfl rfl rfl rfl ?_
 try dsimp only [St.put]
 refine af rfl rfl rfl rfl (bu rfl rfl rfl rfl (bp (by assumption)) (Enc.len _)) ?_
 refine af rfl rfl rfl rfl (bx rfl rfl rfl) ?_
 try dsimp only [St.put]
 refine aw rfl rfl rfl rfl (bn rfl rfl) ?_
 refine af rfl rfl rfl rfl (bf rfl rfl (List.length_map _)) ?_
 refine af rfl rfl rfl rfl (bx rfl rfl rfl) ?_
 try dsimp only [St.put]
 refine aw rfl rfl rfl rfl (bn rfl rfl) ?_
 refine xM rfl rfl rfl rfl rfl ?_
 try dsimp only [St.put]
 refine af rfl rfl rfl rfl (bu rfl rfl rfl rfl (bp (by assumption)) (Enc.len _)) ?_
 refine af rfl rfl rfl rfl (bx rfl rfl rfl) ?_
 try dsimp only [St.put]
 refine aw rfl rfl rfl rfl (bn rfl rfl) ?_
 refine af rfl rfl rfl rfl (bf rfl rfl (List.length_map _)) ?_
 refine af rfl rfl rfl rfl (qi rfl rfl rfl (by omega)) ?_
 refine af rfl rfl rfl rfl (fe rfl (by constructor)) ?_
 refine bz ?_
 dsimp only [St.put]
 rw [show (x.found.length : Int) * (x.well.length : Int) = ((x.found.length * x.well.length : Nat) : Int) from hfc.symm]
 obtain ⟨M, hM⟩ : ∃ M, x.found.length * x.well.length = M := ⟨_, rfl⟩
 obtain ⟨K, hK⟩ : ∃ K, (cj p.text x).length = K := ⟨_, rfl⟩
 have hV2 : nh p (j : Int) = ⟨(M : Int) / (K : Int), ((M : Int) + (K : Int) - 1) / (K : Int)⟩ := by
  rw [hV]
  unfold s9
  rw [hM, hK, Int.natCast_ediv, Int.natCast_ediv, show ((M + K - 1 : Nat) : Int) = (M : Int) + (K : Int) - 1 by omega]
 rw [hM] at hfw
 rw [hK] at hk hbl
 rw [hM, hK]
 refine K10 _ ?_
 refine yS fun _ K11 => ?_
 refine gn [(0, none), (1, none), (2, none), (3, none), (4, none), (5, none), (6, none), (7, none), (8, none), (9, none), (10, none), (11, none)] (fun i => [10].contains i) (fun i => [10].contains i) (fun i => [0, 1, 2, 3, 4, 5, 6, 7, 8, 9, 11].contains i) [] (by kernel_rfl) (by kernel_rfl) ?_
 refine xM rfl rfl rfl rfl rfl ?_
 refine xM rfl rfl rfl rfl rfl ?_
 refine af rfl rfl rfl rfl (xw rfl rfl rfl (by omega) (by omega)) ?_
 refine xM rfl rfl rfl rfl rfl ?_
 refine xM rfl rfl rfl rfl rfl ?_
 refine af rfl rfl rfl rfl (ca rfl rfl rfl (by omega)) ?_
 refine af rfl rfl rfl rfl (gq rfl rfl rfl (by omega)) ?_
 refine xM rfl rfl rfl rfl rfl ?_
 refine af rfl rfl rfl rfl (xw rfl rfl rfl (by omega) (by omega)) ?_
 refine af rfl rfl rfl rfl (gt rfl rfl) ?_
 refine ji ?_
 try dsimp only [St.put]
 refine ij rfl rfl rfl rfl (cp rfl rfl rfl zG rfl rfl (by rfl) ?_)
 refine d7 rfl rfl rfl rfl (fe rfl (by constructor)) ?_
 refine jh ?_
 dsimp only [St.put]
 refine K11 _ ?_
 refine aq ?_
 refine gl rfl (jo rfl zG (by rfl) zC rfl) (dq (by constructor)) zN zS ?_ ?_
 ·rw [hV2]; exact zW
 rw [hE]; exact zW
end Go.Proofs.YtbbdginipiljdaaDoor
namespace Go.AB
open Go Go.RowKit
open Go.AB.Enc (cells)
open Go.PB (av aj PlaceD az bd bc bi am ah cc bg ct cw)
/-- who has read a page, of some sides -/
def n4 (p : ah) (x : am) : Nat → List Int
 | 0 => []
 | k + 1 => n4 p x k ++ bif decide (0 ≤ eo (decide (k = 1)) x) then [(sdN p k : Int) + eo (decide (k = 1)) x] else []
theorem uhu (p : ah) (x : am) : n4 p x 2 = cx p x := by
 show ([] ++ bif decide (0 ≤ x.fst) then [((0 : Nat) : Int) + x.fst] else []) ++ (bif decide (0 ≤ x.snd) then [(p.firsts.length : Int) + x.snd] else []) = cx p x
 rw [List.nil_append, show ((0 : Nat) : Int) + x.fst = x.fst by omega]
 rfl
theorem uat (p : ah) (x : am) : ∀ k, (n4 p x k).length ≤ k
 | 0 => Nat.le_refl _
 | k + 1 => by
  have := uat p x k
  simp only [n4, List.length_append]
  cases decide (0 ≤ eo (decide (k = 1)) x)
  ·rw [cond_false]; simp; omega
  rw [cond_true]; simp; omega
theorem ujt {α β : Type} {l : List α} {j : Nat} {x : α} (f : α → β) (h : l[j]? = some x) : (l.take (j + 1)).map f = (l.take j).map f ++ [f x] := by rw [List.take_add_one, h, Option.toList_some, List.map_append]; rfl
theorem uj8 {p : ah} : (!(cd (bw p) (cn p)).any fun n => decide (n < 0)) = i9 p := by
 rw [Bool.eq_iff_iff, Bool.not_eq_true', ← Bool.not_eq_true, List.any_eq_true]
 unfold i9 cd
 rw [List.all_eq_true]
 constructor
 ·intro h i hi
  refine decide_eq_true ?_
  rcases Int.lt_or_le (cn p i) 0 with q | q
  ·exact absurd ⟨_, List.mem_map.2 ⟨i, hi, rfl⟩, decide_eq_true q⟩ h
  exact q
 rintro h ⟨z, hz, hl⟩
 obtain ⟨i, hi, rfl⟩ := List.mem_map.1 hz
 have := of_decide_eq_true (h i hi)
 have := of_decide_eq_true hl
 omega
end Go.AB
namespace Go.Proofs.YtbbdginipiljdaaDoor
set_option maxRecDepth 10000
open Go Go.RowKit Go.AB
open Go.AB.Enc (cells)
open Go.PB (av aj PlaceD az bd bc bi am ah cc bg ct cw)
theorem uhg (z : Int) : Pure Tryd.prog 105 [.v (.int .i64 z)] (.v (.bool (decide (z < 0)))) := by
 refine co Tryd.func105 rfl (fun m => .v) fun G nx => ?_
 simp only [Tryd.ntmps105, List.length_cons, List.length_nil, Nat.reduceAdd, Nat.reduceSub]
 refine bl fun hlt => ?_
 dsimp only at hlt
 refine yS fun _ K1 => ?_
 refine yR ?_
 refine yA rfl rfl ?_
 refine yN ?_
 dsimp only [St.put]
 refine K1 _ ?_
 refine yS fun _ K2 => ?_
 refine yR ?_
 refine yM rfl rfl ?_
 refine aa rfl (ci rfl rfl rfl) ?_
 refine yA rfl rfl ?_
 refine yN ?_
 dsimp only [St.put]
 refine K2 _ ?_
 refine aq ?_
 refine ba rfl (by constructor) zN zS ?_
 rfl
theorem uj5 (p : ah) : Pure Tryd.prog 104 [.elem (jx p)] (.fn (.func 116) [.elem [.elem (jx p)]]) := by
 refine co Tryd.func104 rfl (fun m => (.fn (bv (.elem (bv (.elem (bv (bj _ _) (bv (bj _ _) (bv (bj _ _) (bv (bj _ _) (bv (bj _ _) (bv (bj _ _) (bv (bj _ _) cv)))))))) cv)) cv))) fun G nx => ?_
 simp only [Tryd.ntmps104, List.length_cons, List.length_nil, Nat.reduceAdd, Nat.reduceSub]
 refine bl fun hlt => ?_
 dsimp only at hlt
 refine yS fun _ K1 => ?_
 refine yR ?_
 try dsimp only [St.put]
 refine yB rfl rfl rfl ?_
 refine yA rfl rfl ?_
 refine yN ?_
 dsimp only [St.put]
 refine K1 _ ?_
 refine yS fun _ K2 => ?_
 refine yR ?_
 refine aa rfl (pc rfl rfl) ?_
 refine yA rfl rfl ?_
 refine yN ?_
 dsimp only [St.put]
 refine K2 _ ?_
 refine aq ?_
 refine ba rfl (by constructor) zN zS ?_
 rfl
set_option maxHeartbeats 2000000 in
theorem uih (n : Nat) (p : ah) (h : e8 p) : ep n em Tryd.prog 84 [.elem (jx p)] (.tup [val (fk p (cn p) (c7 p)), .v (.bool (i9 p))]) := fun G nx hF hnx => by
 refine ie (G) (nx) Tryd.func84 rfl (.tup (bv (dv _ _) (bv .v cv))) zN (fun hlt => zH) ?_
 simp only [Tryd.ntmps84, List.length_cons, List.length_nil, Nat.reduceAdd, Nat.reduceSub]
 refine bl fun hlt => ?_
 dsimp only at hlt
 have hn1 := h.nf
 have hn2 := h.ns
 have hnp := h.np
 have hnr : bw p = p.firsts.length + p.seconds.length := rfl
 have hal := ox h.text
 refine yS fun _ K1 => ?_
 refine yR ?_
 try dsimp only [St.put]
 refine ae rfl (dm rfl ?_)
 refine yA rfl rfl ?_
 refine yN ?_
 dsimp only [St.put]
 refine K1 _ ?_
 refine yS fun _ K2 => ?_
 refine yR ?_
 try dsimp only [St.put]
 refine ae rfl (dm rfl ?_)
 refine yN ?_
 dsimp only [St.put]
 refine K2 _ ?_
 refine qv (nx + 1) 0 _ _ 3 1 zG rfl (by decide) ?_
 refine qv (nx + 1) 1 _ _ 3 1 zG rfl (by decide) ?_
 refine qv (nx + 1) 2 _ _ 57 1 zG rfl (by decide) ?_
 dsimp only [List.set_cons_zero, List.set_cons_succ]
 refine yS fun _ K3 => ?_
 refine yS fun _ K4 => ?_
 refine yR ?_
 refine yM rfl rfl ?_
 try dsimp only [St.put]
 refine ae rfl (ay rfl rfl rfl (uj5 p) ?_)
 refine yN ?_
 dsimp only [St.put]
 refine K4 _ ?_
 refine bh ?_
 refine ck 15 ?_
 refine zQ ?_
 refine dd ((ak (ak (ak (ak (ak G nx (.box 0 [.list [] .nil, .list [] .nil, .list [] .nil])) (nx + 1) (.box (0) [.list ((cd 0 (cn p)).map cells) (.tip (nx + 1 + 1)), .list ((cd 0 (c7 p)).map cells) (.tip (nx + 1 + 1 + 1)), .list (((p.pages.take 0).map (cx p)).map cells) (.tip (nx + 1 + 1 + 1 + 1))])) (nx + 1 + 1) (.tip (cd 0 (cn p)).length 3 1)) (nx + 1 + 1 + 1) (.tip (cd 0 (c7 p)).length 3 1)) (nx + 1 + 1 + 1 + 1) (.tip ((p.pages.take 0).map (cx p)).length 57 1))) zX ?_
 dsimp only
 refine uei [15] (fun k => (ak (ak (ak (ak (ak G nx (.box 0 [.list [] .nil, .list [] .nil, .list [] .nil])) (nx + 1) (.box (k) [.list ((cd k (cn p)).map cells) (.tip (nx + 1 + 1)), .list ((cd 0 (c7 p)).map cells) (.tip (nx + 1 + 1 + 1)), .list (((p.pages.take 0).map (cx p)).map cells) (.tip (nx + 1 + 1 + 1 + 1))])) (nx + 1 + 1) (.tip (cd k (cn p)).length 3 1)) (nx + 1 + 1 + 1) (.tip (cd 0 (c7 p)).length 3 1)) (nx + 1 + 1 + 1 + 1) (.tip ((p.pages.take 0).map (cx p)).length 57 1))) (fun k => [(15, .v (.int .i64 (cn p k)))]) (uj6 n p h) (fun k => zG) (by (try dsimp only); omega) rfl rfl (fun _ => rfl) ?_ ?_ ?_ (fun lr k hrk => ?_) ?_
 ·intro k
  rfl
 ·exact zX
 ·intro k
  exact zH
 ·have hll := ja k (cn p)
  refine yR ?_
  refine yA rfl rfl ?_
  refine yN ?_
  dsimp only [St.put]
  show AW _ _ _ _ _
  refine bh ?_
  refine yR ?_
  refine aa rfl (eb rfl rfl) ?_
  try dsimp only [St.put]
  refine bq rfl (fj rfl rfl zG trivial (by first | rfl | assumption)) ?_
  refine yM rfl rfl ?_
  try dsimp only [St.put]
  refine ae rfl (dl rfl rfl rfl (by decide) (by decide) zR (by decide) ?_)
  try dsimp only [St.put]
  refine ae rfl (kp ([cn p k]) rfl rfl zG zE rfl rfl zA ?_ zA)
  refine aa rfl (eb rfl rfl) ?_
  try dsimp only [St.put]
  refine ae rfl (j6 rfl rfl rfl zG (by constructor) rfl zO ?_)
  refine yN ?_
  dsimp only [St.put]
  rw [← ww k (cn p)]
  exact zX
 dsimp only
 refine K3 _ ?_
 refine yS fun _ K5 => ?_
 refine yS fun _ K6 => ?_
 refine yR ?_
 refine yM rfl rfl ?_
 refine aa rfl (kg rfl rfl) ?_
 refine yF rfl rfl rfl rfl ?_
 refine yF rfl rfl rfl rfl ?_
 refine yL rfl rfl rfl ?_
 refine aa rfl (bf rfl rfl (List.length_map _)) ?_
 refine yM rfl rfl ?_
 refine yN ?_
 dsimp only [St.put]
 refine K6 _ ?_
 refine bh ?_
 refine ck 29 ?_
 refine zQ ?_
 refine dd ((ak (ak (ak (ak (ak G nx (.box 0 [.list [] .nil, .list [] .nil, .list [] .nil])) (nx + 1) (.box ((bw p)) [.list ((cd (bw p) (cn p)).map cells) (.tip (nx + 1 + 1)), .list ((cd 0 (c7 p)).map cells) (.tip (nx + 1 + 1 + 1)), .list (((p.pages.take 0).map (cx p)).map cells) (.tip (nx + 1 + 1 + 1 + 1))])) (nx + 1 + 1) (.tip (cd (bw p) (cn p)).length 3 1)) (nx + 1 + 1 + 1) (.tip (cd 0 (c7 p)).length 3 1)) (nx + 1 + 1 + 1 + 1) (.tip ((p.pages.take 0).map (cx p)).length 57 1))) zX ?_
 dsimp only
 refine dc (X := Nat) (fun j => j ≤ p.pages.length) (fun j => p.pages.length - j) (fun j => [(6, .any), (7, .any), (8, .any), (9, .any), (10, .any), (11, .any), (12, .any), (28, .v (.int .i64 (j : Int)))]) (fun j G' => (ak (ak (ak (ak (ak G nx (.box 0 [.list [] .nil, .list [] .nil, .list [] .nil])) (nx + 1) (.box ((bw p + 2 * j)) [.list ((cd (bw p) (cn p)).map cells) (.tip (nx + 1 + 1)), .list ((cd j (c7 p)).map cells) (.tip (nx + 1 + 1 + 1)), .list (((p.pages.take j).map (cx p)).map cells) (.tip (nx + 1 + 1 + 1 + 1))])) (nx + 1 + 1) (.tip (cd (bw p) (cn p)).length 3 1)) (nx + 1 + 1 + 1) (.tip (cd j (c7 p)).length 3 1)) (nx + 1 + 1 + 1 + 1) (.tip ((p.pages.take j).map (cx p)).length 57 1))) 0 rfl ?_ ?_ ?_ ?_ ?_ ?_
 ·exact Nat.zero_le _
 ·exact zF
 ·exact zX
 ·rintro j hI
  exact zL
 ·rintro j hI
  exact zH
 rintro j hJ
 dsimp only at hJ ⊢
 refine yS fun _ K7 => ?_
 refine yR ?_
 refine aa rfl (ci rfl rfl rfl) ?_
 refine yN ?_
 dsimp only [St.put]
 refine K7 _ ?_
 refine yS fun _ K8 => ?_
 refine ar rfl (fun hc => ?_) (fun hc => ?_)
 ·replace hc := of_decide_eq_true hc
  obtain ⟨x, hx⟩ : ∃ x, p.pages[j]? = some x := dj (by omega)
  have hw1 : (p.pages.map fun x => (er p.text x : Int))[j]? = some (er p.text x : Int) := qk (fun x => (er p.text x : Int)) hx
  have hw2 := qk (dn p.text) hx
  have hgl := te p.text x
  have hwx := we p.text x
  have hll := ja j (c7 p)
  have hp := pageB_true.1 (h.page j x hx)
  have hp1 := hp.fst
  have hp2 := hp.snd
  have hll2 : ((p.pages.take j).map (cx p)).length ≤ 8 := by rw [List.length_map, List.length_take]; omega
  refine ax ?_
  refine K8 _ ?_
  refine yS fun _ K9 => ?_
  refine bh ?_
  refine yS fun _ K10 => ?_
  refine yR ?_
  refine yM rfl rfl ?_
  refine aa rfl (bu rfl rfl rfl rfl (bp (by assumption)) (Enc.len _)) ?_
  refine yE rfl rfl rfl ?_
  try dsimp only [St.put]
  refine ae rfl (dm rfl ?_)
  refine yA rfl rfl ?_
  try dsimp only [St.put]
  refine ae rfl (cp rfl rfl rfl zG rfl rfl (by rfl) ?_)
  refine yN ?_
  dsimp only [St.put]
  refine K10 _ ?_
  refine fw (i := 7) rfl zG zC ?_
  dsimp only
  refine yS fun _ K11 => ?_
  refine gn [(0, none), (1, none), (2, none), (3, none), (4, none), (5, none), (6, none), (7, none), (8, none), (9, none), (10, none), (11, none), (12, none), (13, none), (14, none), (15, none), (16, none), (17, none), (18, none), (19, none), (20, none), (21, none)] (fun i => [19, 21].contains i) (fun i => [18, 19, 21].contains i) (fun i => [0, 2, 3, 4, 6, 7, 9, 10, 11, 13, 14, 16, 17, 20].contains i) [nx + 1] (by kernel_rfl) (by kernel_rfl) ?_
  refine af rfl rfl rfl rfl (eb rfl rfl) ?_
  try dsimp only [St.put]
  refine aw rfl rfl rfl rfl (fj rfl rfl zG (by simp) (by first | rfl | assumption)) ?_
  refine xM rfl rfl rfl rfl rfl ?_
  refine af rfl rfl rfl rfl (kg rfl rfl) ?_
  refine af rfl rfl rfl rfl (bx rfl rfl rfl) ?_
  try dsimp only [St.put]
  refine aw rfl rfl rfl rfl (bn rfl rfl) ?_
  refine xM rfl rfl rfl rfl rfl ?_
  try dsimp only [St.put]
  refine af rfl rfl rfl rfl (bu rfl rfl rfl rfl (bp (by assumption)) (Enc.len _)) ?_
  try dsimp only [St.put]
  refine aw rfl rfl rfl rfl (bn rfl rfl) ?_
  refine xM rfl rfl rfl rfl rfl ?_
  refine af rfl rfl rfl rfl (kg rfl rfl) ?_
  refine af rfl rfl rfl rfl (bx rfl rfl rfl) ?_
  try dsimp only [St.put]
  refine aw rfl rfl rfl rfl (bn rfl rfl) ?_
  refine xM rfl rfl rfl rfl rfl ?_
  try dsimp only [St.put]
  refine af rfl rfl rfl rfl (bu rfl rfl rfl rfl (bp (by assumption)) (Enc.len _)) ?_
  try dsimp only [St.put]
  refine aw rfl rfl rfl rfl (bn rfl rfl) ?_
  refine af rfl rfl rfl rfl (bf rfl rfl (List.length_map _)) ?_
  refine af rfl rfl rfl rfl (gq rfl rfl rfl (by omega)) ?_
  refine ji ?_
  try dsimp only [St.put]
  refine j7 rfl rfl rfl (dl rfl rfl rfl (by decide) (by decide) zR (by decide) ⟨zD, ?_⟩)
  try dsimp only [St.put]
  refine ij rfl rfl rfl rfl (kp ([(er p.text x : Int) - ((dn p.text x).length : Int)]) rfl rfl zG zE rfl rfl zA ?_ zA)
  refine d7 rfl rfl rfl rfl (eb rfl rfl) ?_
  try dsimp only [St.put]
  refine ij rfl rfl rfl rfl (j6 rfl rfl rfl zG (by constructor) rfl zO ?_)
  refine jh ?_
  dsimp only [St.put]
  have e := ww j (c7 p)
  rw [show c7 p j = (er p.text x : Int) - ((dn p.text x).length : Int) from uh7 hx _] at e
  simp only [← e]
  refine K11 _ ?_
  refine yS fun _ K12 => ?_
  refine yR ?_
  refine yA rfl rfl ?_
  refine yN ?_
  dsimp only [St.put]
  refine K12 _ ?_
  refine pr 8 3 1 rfl (by decide) ?_
  dsimp only [List.set_cons_zero, List.set_cons_succ]
  refine yS fun _ K13 => ?_
  refine yR ?_
  refine yA rfl rfl ?_
  refine yN ?_
  dsimp only [St.put]
  refine K13 _ ?_
  refine yS fun _ K14 => ?_
  refine yS fun _ K15 => ?_
  refine yR ?_
  try dsimp only [St.put]
  refine bq rfl (mh (n := 6) (m := n) rfl rfl zG rfl) ?_
  refine yM rfl rfl ?_
  refine yN ?_
  dsimp only [St.put]
  refine K15 _ ?_
  refine bh ?_
  refine ck 56 ?_
  refine zQ ?_
  refine dd (ak ((ak (ak (ak (ak (ak G nx (.box 0 [.list [] .nil, .list [] .nil, .list [] .nil])) (nx + 1) (.box ((bw p + 2 * j + 1)) [.list ((cd (bw p) (cn p)).map cells) (.tip (nx + 1 + 1)), .list ((cd (j + 1) (c7 p)).map cells) (.tip (nx + 1 + 1 + 1)), .list (((p.pages.take j).map (cx p)).map cells) (.tip (nx + 1 + 1 + 1 + 1))])) (nx + 1 + 1) (.tip (cd (bw p) (cn p)).length 3 1)) (nx + 1 + 1 + 1) (.tip (cd (j + 1) (c7 p)).length 3 1)) (nx + 1 + 1 + 1 + 1) (.tip ((p.pages.take j).map (cx p)).length 57 1))) (nx + 1 + 1 + 1 + 1 + 1 + 1) (.tip 0 3 1)) zX ?_
  dsimp only
  refine dc (X := Nat) (fun k => k ≤ 2) (fun k => 2 - k) (fun k => [(8, .list ((n4 p x k).map cells) (.tip (nx + 1 + 1 + 1 + 1 + 1 + 1))), (9, .v (.int .i64 (sdN p k : Int))), (11, .any), (12, .any), (55, .v (.int .i64 (k : Int)))]) (fun k G' => ak ((ak (ak (ak (ak (ak G nx (.box 0 [.list [] .nil, .list [] .nil, .list [] .nil])) (nx + 1) (.box ((bw p + 2 * j + 1)) [.list ((cd (bw p) (cn p)).map cells) (.tip (nx + 1 + 1)), .list ((cd (j + 1) (c7 p)).map cells) (.tip (nx + 1 + 1 + 1)), .list (((p.pages.take j).map (cx p)).map cells) (.tip (nx + 1 + 1 + 1 + 1))])) (nx + 1 + 1) (.tip (cd (bw p) (cn p)).length 3 1)) (nx + 1 + 1 + 1) (.tip (cd (j + 1) (c7 p)).length 3 1)) (nx + 1 + 1 + 1 + 1) (.tip ((p.pages.take j).map (cx p)).length 57 1))) (nx + 1 + 1 + 1 + 1 + 1 + 1) (.tip (n4 p x k).length 3 1)) 0 rfl ?_ ?_ ?_ ?_ ?_ ?_
  ·exact Nat.zero_le _
  ·exact zF
  ·exact zX
  ·rintro k hI
   exact zL
  ·rintro k hI
   exact zH
  rintro k hK
  dsimp only at hK ⊢
  refine yS fun _ K16 => ?_
  refine yR ?_
  refine aa rfl (ci rfl rfl rfl) ?_
  refine yN ?_
  dsimp only [St.put]
  refine K16 _ ?_
  refine yS fun _ K17 => ?_
  refine ar rfl (fun hc => ?_) (fun hc => ?_)
  ·replace hc := of_decide_eq_true hc
   have hk : k < 2 := by omega
   have hsd : sdN p k ≤ 3 ∧ (da p (decide (k = 1))).length ≤ 3 ∧ -1 ≤ eo (decide (k = 1)) x ∧ eo (decide (k = 1)) x ≤ 3 := by
    have : k = 0 ∨ k = 1 := by omega
    rcases this with rfl | rfl
    ·exact ⟨Nat.zero_le _, hn1, by show -1 ≤ x.fst; omega, by show x.fst ≤ 3; omega⟩
    exact ⟨hn1, hn2, by show -1 ≤ x.snd; omega, by show x.snd ≤ 3; omega⟩
   have hst : n4 p x (k + 1) = n4 p x k ++ bif decide (0 ≤ eo (decide (k = 1)) x) then [(sdN p k : Int) + eo (decide (k = 1)) x] else [] := rfl
   have hrl := uat p x k
   refine ax ?_
   refine K17 _ ?_
   refine yS fun _ K18 => ?_
   refine bh ?_
   refine yS fun _ K19 => ?_
   refine yR ?_
   refine aa rfl (uy (k := k) (m := 2) (sz := 3) rfl rfl rfl rfl hk (ug hk)) ?_
   try dsimp only [St.put]
   refine ae rfl (dm rfl ?_)
   try dsimp only [St.put]
   refine ae rfl (cp rfl rfl rfl zG rfl rfl (by rfl) ?_)
   refine yN ?_
   dsimp only [St.put]
   refine K19 _ ?_
   refine fw (i := 11) rfl zG zC ?_
   dsimp only
   refine yS fun _ K20 => ?_
   refine yS fun _ K21 => ?_
   refine yR ?_
   refine yF rfl rfl rfl rfl ?_
   refine yL rfl rfl rfl ?_
   refine yE rfl rfl rfl ?_
   try dsimp only [St.put]
   refine ae rfl (ay rfl rfl rfl (w9 (decide (k = 1)) x) ?_)
   refine yA rfl rfl ?_
   refine yN ?_
   dsimp only [St.put]
   refine K21 _ ?_
   refine yS fun _ K22 => ?_
   refine yR ?_
   refine yM rfl rfl ?_
   refine aa rfl (lp rfl rfl rfl) ?_
   refine yN ?_
   dsimp only [St.put]
   refine K22 _ ?_
   refine ar rfl (fun hc => ?_) (fun hc => ?_)
   ·have hyes : 0 ≤ eo (decide (k = 1)) x := of_decide_eq_true hc
    refine yR ?_
    refine yM rfl rfl ?_
    refine yM rfl rfl ?_
    refine yM rfl rfl ?_
    refine aa rfl (ca rfl rfl rfl (by omega)) ?_
    try dsimp only [St.put]
    refine ae rfl (dl rfl rfl rfl (by decide) (by decide) zR (by decide) ?_)
    try dsimp only [St.put]
    refine ae rfl (kp ([(sdN p k : Int) + eo (decide (k = 1)) x]) rfl rfl zG zE rfl rfl zA ?_ zA)
    refine yA rfl rfl ?_
    refine yN ?_
    dsimp only [St.put]
    refine K20 _ ?_
    refine gn [(0, none), (1, none), (2, none), (3, none), (4, none), (5, none), (6, none), (7, none), (8, none), (9, none), (10, none)] (fun i => [7].contains i) (fun i => [7].contains i) (fun i => [0, 1, 3, 4, 5, 8, 9, 10].contains i) [] (by kernel_rfl) (by kernel_rfl) ?_
    refine xM rfl rfl rfl rfl rfl ?_
    refine af rfl rfl rfl rfl (bx rfl rfl rfl) ?_
    try dsimp only [St.put]
    refine aw rfl rfl rfl rfl (bn rfl rfl) ?_
    refine xM rfl rfl rfl rfl rfl ?_
    refine af rfl rfl rfl rfl (kg rfl rfl) ?_
    refine af rfl rfl rfl rfl (bx rfl rfl rfl) ?_
    try dsimp only [St.put]
    refine aw rfl rfl rfl rfl (c := val p) (jj (cs := jx p) rfl rfl (show 4 ≤ 7 by decide)) ?_
    refine ji ?_
    try dsimp only [St.put]
    refine ij rfl rfl rfl rfl (ay rfl rfl rfl (n2 (decide (k = 1)) p) ?_)
    refine d7 rfl rfl rfl rfl (bf rfl rfl (List.length_map _)) ?_
    refine d7 rfl rfl rfl rfl (ca rfl rfl rfl (by omega)) ?_
    refine d7 rfl rfl rfl rfl (fe rfl (by constructor)) ?_
    refine jh ?_
    dsimp only [St.put]
    refine K18 _ ?_
    refine yR ?_
    refine aa rfl (ca rfl rfl rfl (by omega)) ?_
    refine yM rfl rfl ?_
    refine yN ?_
    dsimp only [St.put]
    rw [show ((sdN p k : Nat) : Int) + ((da p (decide (k = 1))).length : Int) = ((sdN p (k + 1) : Nat) : Int) by rw [w8 hk]; omega]
    first
    | (have z : 0 ≤ eo (decide (k = 1)) x := hyes
       rw [decide_eq_true z, cond_true] at hst
       rw [← hst]
       exact ⟨k + 1, by omega, by omega, ⟨⟨rfl, rfl⟩, zF, zB, zN, zX⟩⟩)
    | (have z : ¬ 0 ≤ eo (decide (k = 1)) x := hno
       rw [decide_eq_false z, cond_false, List.append_nil] at hst
       rw [← hst]
       exact ⟨k + 1, by omega, by omega, ⟨⟨rfl, rfl⟩, zF, zB, zN, zX⟩⟩)
   have hno : ¬ 0 ≤ eo (decide (k = 1)) x := of_decide_eq_false hc
   refine ax ?_
   refine K20 _ ?_
   refine gn [(0, none), (1, none), (2, none), (3, none), (4, none), (5, none), (6, none), (7, none), (8, none), (9, none), (10, none)] (fun i => [7].contains i) (fun i => [7].contains i) (fun i => [0, 1, 3, 4, 5, 8, 9, 10].contains i) [] (by kernel_rfl) (by kernel_rfl) ?_
   refine xM rfl rfl rfl rfl rfl ?_
   refine af rfl rfl rfl rfl (bx rfl rfl rfl) ?_
   try dsimp only [St.put]
   refine aw rfl rfl rfl rfl (bn rfl rfl) ?_
   refine xM rfl rfl rfl rfl rfl ?_
   refine af rfl rfl rfl rfl (kg rfl rfl) ?_
   refine af rfl rfl rfl rfl (bx rfl rfl rfl) ?_
   try dsimp only [St.put]
   refine aw rfl rfl rfl rfl (c := val p) (jj (cs := jx p) rfl rfl (show 4 ≤ 7 by decide)) ?_
   refine ji ?_
   try dsimp only [St.put]
   refine ij rfl rfl rfl rfl (ay rfl rfl rfl (n2 (decide (k = 1)) p) ?_)
   refine d7 rfl rfl rfl rfl (bf rfl rfl (List.length_map _)) ?_
   refine d7 rfl rfl rfl rfl (ca rfl rfl rfl (by omega)) ?_
   refine d7 rfl rfl rfl rfl (fe rfl (by constructor)) ?_
   refine jh ?_
   dsimp only [St.put]
   refine K18 _ ?_
   refine yR ?_
   refine aa rfl (ca rfl rfl rfl (by omega)) ?_
   refine yM rfl rfl ?_
   refine yN ?_
   dsimp only [St.put]
   rw [show ((sdN p k : Nat) : Int) + ((da p (decide (k = 1))).length : Int) = ((sdN p (k + 1) : Nat) : Int) by rw [w8 hk]; omega]
   first
   | (have z : 0 ≤ eo (decide (k = 1)) x := hyes
      rw [decide_eq_true z, cond_true] at hst
      rw [← hst]
      exact ⟨k + 1, by omega, by omega, ⟨⟨rfl, rfl⟩, zF, zB, zN, zX⟩⟩)
   | (have z : ¬ 0 ≤ eo (decide (k = 1)) x := hno
      rw [decide_eq_false z, cond_false, List.append_nil] at hst
      rw [← hst]
      exact ⟨k + 1, by omega, by omega, ⟨⟨rfl, rfl⟩, zF, zB, zN, zX⟩⟩)
  replace hc := of_decide_eq_false hc
  obtain rfl : k = 2 := by omega
  rw [uhu]
  refine vx 8 (lst (cx p x)) rfl Wk.tok ?_
  refine c5 ?_
  refine K14 _ ?_
  refine yR ?_
  refine aa rfl (eb rfl rfl) ?_
  try dsimp only [St.put]
  refine bq rfl (fj rfl rfl zG trivial (by first | rfl | assumption)) ?_
  refine yM rfl rfl ?_
  try dsimp only [St.put]
  refine ae rfl (dl rfl rfl rfl (by decide) (by decide) zR (by decide) ?_)
  try dsimp only [St.put]
  refine ae rfl (kp ([cx p x]) rfl rfl zG zE rfl rfl zA ?_ zA)
  refine aa rfl (eb rfl rfl) ?_
  try dsimp only [St.put]
  refine ae rfl (j6 rfl rfl rfl zG (by constructor) rfl zO ?_)
  refine yN ?_
  dsimp only [St.put]
  refine K9 _ ?_
  refine yR ?_
  refine aa rfl (ca rfl rfl rfl (by omega)) ?_
  refine yM rfl rfl ?_
  refine yN ?_
  dsimp only [St.put]
  have e2 := ujt (cx p) hx
  simp only [← e2]
  exact ⟨j + 1, by omega, by omega, ⟨⟨rfl, rfl⟩, zF, zB, zN, zX⟩⟩
 replace hc := of_decide_eq_false hc
 obtain rfl : j = p.pages.length := by omega
 rw [List.take_length]
 refine y7 (nx + 1) (bw p + 2 * p.pages.length) (cells (fk p (cn p) (c7 p))) zG zW ?_
 refine c5 ?_
 refine K5 _ ?_
 refine yS fun _ K23 => ?_
 refine gn [(0, none), (1, none), (2, none), (3, none), (4, none), (5, none), (6, none)] (fun i => [5].contains i) (fun i => [3, 5].contains i) (fun i => [1, 4, 6].contains i) [nx + 1] (by kernel_rfl) (by kernel_rfl) ?_
 try dsimp only [St.put]
 refine aw rfl rfl rfl rfl (iu rfl rfl zG (by simp) (by rfl)) ?_
 refine af rfl rfl rfl rfl (eb rfl rfl) ?_
 try dsimp only [St.put]
 refine aw rfl rfl rfl rfl (fj rfl rfl zG (by simp) (by first | rfl | assumption)) ?_
 refine ji ?_
 try dsimp only [St.put]
 refine j7 rfl rfl rfl (ay rfl rfl rfl (wa (cd (bw p) (cn p)) (fun z => decide (z < 0)) _ _ fun z _ => uhg z) ⟨zD, ?_⟩)
 refine d7 rfl rfl rfl rfl (dp rfl rfl) ?_
 try dsimp only [St.put]
 refine ij rfl rfl rfl rfl (cp rfl rfl rfl zG rfl rfl (by rfl) ?_)
 refine d7 rfl rfl rfl rfl (fe rfl (by constructor)) ?_
 refine jh ?_
 dsimp only [St.put]
 refine K23 _ ?_
 refine aq ?_
 refine gl rfl (jo rfl zG (by rfl) zC rfl) (dq (by constructor)) zN zS ?_ ?_
 ·exact zW
 rw [uj8]; exact zW
theorem uhh (m : Nat) (e : Int) (p : ah) : C.low m (bif decide (e = 0) then val (fk p (cn p) (c7 p)) else .agg [.list [] .nil, .list [] .nil, .list [] .nil]) := by
 cases decide (e = 0)
 ·exact .agg (bv el (bv el (bv el cv)))
 exact dv _ _
theorem ua6 (n : Nat) (p : ah) (c : C) (e : Int) (h : e = 0 → e8 p ∧ c = .elem (jx p)) : ep n em Tryd.prog 53 [c, .v (.int .i64 e)] (.tup [bif decide (fp p e = 0) then val (fk p (cn p) (c7 p)) else .agg [.list [] .nil, .list [] .nil, .list [] .nil], .v (.int .i64 (fp p e))]) := fun G nx hF hnx => by
 refine ie (G) (nx) Tryd.func53 rfl (.tup (bv (uhh _ _ _) (bv .v cv))) zN (fun hlt => zH) ?_
 simp only [Tryd.ntmps53, List.length_cons, List.length_nil, Nat.reduceAdd, Nat.reduceSub]
 refine bl fun hlt => ?_
 dsimp only at hlt
 refine yS fun _ K1 => ?_
 refine yR ?_
 try dsimp only [St.put]
 refine ae rfl (dm rfl ?_)
 refine yA rfl rfl ?_
 refine yN ?_
 dsimp only [St.put]
 refine K1 _ ?_
 refine yS fun _ K2 => ?_
 refine yS fun _ K3 => ?_
 refine yR ?_
 refine yM rfl rfl ?_
 refine aa rfl (fm rfl rfl rfl) ?_
 refine yN ?_
 dsimp only [St.put]
 refine K3 _ ?_
 refine ar rfl (fun hc => ?_) (fun hc => ?_)
 ·have h0 : e ≠ 0 := jm hc
  have hE : fp p e = e := uci h0
  refine yS fun _ K4 => ?_
  refine yR ?_
  refine aa rfl (gt rfl rfl) ?_
  refine yM rfl rfl ?_
  try dsimp only [St.put]
  refine ae rfl (cp rfl rfl rfl zG rfl rfl (by rfl) ?_)
  refine yA rfl rfl ?_
  refine yN ?_
  dsimp only [St.put]
  refine K4 _ ?_
  refine aq ?_
  refine gl rfl (jo rfl zG (by rfl) zC rfl) (dq (by constructor)) zN zS ?_ ?_
  ·rw [hE, decide_eq_false h0]; exact zW
  rw [hE]; exact zW
 have h0 : e = 0 := gp hc
 obtain ⟨hok, rfl⟩ := h h0
 subst h0
 refine ax ?_
 refine K2 _ ?_
 refine yS fun _ K5 => ?_
 refine yR ?_
 refine yM rfl rfl ?_
 try dsimp only [St.put]
 refine ae rfl (dr rfl rfl rfl (uih n p hok) zG (by dsimp only [St.put]; omega) ?_)
 refine yM rfl rfl ?_
 refine yX rfl rfl rfl rfl ?_
 refine yX rfl rfl rfl rfl ?_
 try dsimp only [St.put]
 refine ae rfl (dm rfl ?_)
 try dsimp only [St.put]
 refine ae rfl (cp rfl rfl rfl zG rfl rfl (by rfl) ?_)
 refine yA rfl rfl ?_
 refine yN ?_
 dsimp only [St.put]
 refine K5 _ ?_
 refine yS fun _ K6 => ?_
 refine yS fun _ K7 => ?_
 refine yR ?_
 refine yM rfl rfl ?_
 refine aa rfl (dp rfl rfl) ?_
 refine yN ?_
 dsimp only [St.put]
 refine K7 _ ?_
 refine ar rfl (fun hc => ?_) (fun hc => ?_)
 ·have hTB : i9 p = false := by simpa using hc
  have hE : fp p 0 = 8 := by rw [sq, hTB]; rfl
  refine yS fun _ K8 => ?_
  refine yR ?_
  refine aa rfl (gt rfl rfl) ?_
  try dsimp only [St.put]
  refine ae rfl (cp rfl rfl rfl zG rfl rfl (by rfl) ?_)
  refine yA rfl rfl ?_
  refine yN ?_
  dsimp only [St.put]
  refine K8 _ ?_
  refine aq ?_
  refine gl rfl (jo rfl zG (by rfl) zC rfl) (dq (by constructor)) zN zS ?_ ?_
  ·rw [hE]; exact zW
  rw [hE]; exact zW
 have hTB : i9 p = true := by simpa using hc
 have hE : fp p 0 = 0 := by rw [sq, hTB]; rfl
 refine ax ?_
 refine K6 _ ?_
 refine yS fun _ K9 => ?_
 refine yR ?_
 try dsimp only [St.put]
 refine bq rfl (iu rfl rfl zG trivial (by rfl)) ?_
 try dsimp only [St.put]
 refine ae rfl (cp rfl rfl rfl zG rfl rfl (by rfl) ?_)
 refine yA rfl rfl ?_
 refine yN ?_
 dsimp only [St.put]
 refine K9 _ ?_
 refine aq ?_
 refine gl rfl (jo rfl zG (by rfl) zC rfl) (dq (by constructor)) zN zS ?_ ?_
 ·rw [hE]; exact zW
 rw [hE]; exact zW
end Go.Proofs.YtbbdginipiljdaaDoor
namespace Go.AB
open Go Go.RowKit
open Go.AB.Enc (cells)
open Go.PB (av aj PlaceD az bd bc bi am ah cc bg ct cw)
/-- what may remain ahead of a page, by the worst truth -/
noncomputable def rmR (p : ah) (i : Nat) : Nat → Int := ((br p).room (cn p) (c7 p) i).1
noncomputable def rmC (p : ah) (i : Nat) : Nat → Int := ((br p).room (cn p) (c7 p) i).2
theorem uhe (p : ah) (i : Nat) : rmR p (i + 1) = (br p).lessR (rmR p i) i (i6 p i) := rfl
theorem uhf (p : ah) (i : Nat) : rmC p (i + 1) = dw (rmC p i) i := rfl
theorem zh {p : ah} (h : e8 p) (ht : i9 p = true) {i : Nat} (hi : i < p.pages.length) : (br p).Pick (rmR p i) (rmC p i) i ((br p).pick (rmR p i) (rmC p i) i) :=
 Net.worst_pick (ui9 h) (ufz ht) (fun j _ => ud1 h j) hi
theorem zi (p : ah) (i : Nat) : i6 p i = (br p).pick (rmR p i) (rmC p i) i := rfl
theorem uap {p : ah} (h : e8 p) (ht : i9 p = true) : ∀ {i : Nat}, i ≤ p.pages.length → Bd p (rmR p i) (rmC p i)
 | 0, _ => tn h
 | i + 1, hi => by
  have hp := zh h ht (i := i) (by omega)
  rw [uhe, uhf, zi]
  exact y6 (uap h ht (by omega)) hp.nn hp.le
theorem umr {p : ah} {R C : Nat → Int} (hB : Bd p R C) (j : Nat) : (br p).alone R C j ≤ 1000000 := Int.le_trans (Net.le_alone.1 (Int.le_refl _)).1 (hB.c j).2
end Go.AB
namespace Go.Proofs.YtbbdginipiljdaaDoor
set_option maxRecDepth 10000
open Go.RowKit Go.AB
open Go.AB.Enc (cells)
open Go.PB (av aj PlaceD az bd bc bi am ah cc bg ct cw)
end Go.Proofs.YtbbdginipiljdaaDoor
namespace Go.AB
open Go Go.RowKit
open Go.AB.Enc (cells)
open Go.PB (av aj PlaceD az bd bc bi am ah cc bg ct cw)
theorem sr {p : ah} {e : Int} (h : fp p e = 0) : e = 0 ∧ i9 p = true := by
 by_cases h0 : e = 0
 ·subst h0
  rw [sq] at h
  cases ht : i9 p
  ·rw [ht] at h; cases h
  exact ⟨rfl, rfl⟩
 rw [uci h0] at h; exact absurd h h0
end Go.AB
namespace Go.Proofs.YtbbdginipiljdaaDoor
set_option maxRecDepth 10000
open Go Go.RowKit Go.AB
open Go.AB.Enc (cells)
open Go.PB (av aj PlaceD az bd bc bi am ah cc bg ct cw)
theorem uen {p : ah} {n : Int} (h : du p n = 0) : e8 p ∧ pgC p n = .elem (jx p) := ⟨(l5 (pt h).1).1, r5 h⟩
theorem oq {p : ah} (h : ce p = 0) : e8 p ∧ jd p = .elem (jx p) := ⟨(l5 h).1, uu h⟩
theorem r8 (n : Nat) (p : ah) (c : C) (e : Int) (h : e = 0 → e8 p ∧ c = .elem (jx p)) (hE : fp p e = 0) : ep n em Tryd.prog 53 [c, .v (.int .i64 e)] (.tup [val (fk p (cn p) (c7 p)), .v (.int .i64 0)]) := by
 have := ua6 n p c e h
 rwa [hE, decide_eq_true rfl, cond_true] at this
theorem r9 (n : Nat) (p : ah) (c : C) (e : Int) (h : e = 0 → e8 p ∧ c = .elem (jx p)) (hE : fp p e ≠ 0) : ep n em Tryd.prog 53 [c, .v (.int .i64 e)] (.tup [.agg [.list [] .nil, .list [] .nil, .list [] .nil], .v (.int .i64 (fp p e))]) := by
 have := ua6 n p c e h
 rwa [decide_eq_false hE, cond_false] at this
theorem uii (n : Nat) (p : ah) (m : Int) : ep n em Tryd.prog 32 [val p, .v (.int .i64 m)] (.tup [val (o6 p m), .v (.int .i64 (fp p (du p m)))]) := fun G nx hF hnx => by
 refine ie (G) (nx) Tryd.func32 rfl (.tup (bv (dv _ _) (bv .v cv))) zN (fun hlt => zH) ?_
 simp only [Tryd.ntmps32, List.length_cons, List.length_nil, Nat.reduceAdd, Nat.reduceSub]
 refine bl fun hlt => ?_
 dsimp only at hlt
 refine yS fun _ K1 => ?_
 refine yR ?_
 try dsimp only [St.put]
 refine yB rfl rfl rfl ?_
 try dsimp only [St.put]
 refine ae rfl (dm rfl ?_)
 refine yA rfl rfl ?_
 refine yN ?_
 dsimp only [St.put]
 refine K1 _ ?_
 refine yS fun _ K2 => ?_
 by_cases hL : fp p (du p m) = 0
 ·refine yR ?_
  refine yE rfl rfl rfl ?_
  refine yM rfl rfl ?_
  try dsimp only [St.put]
  refine ae rfl (dr rfl rfl rfl (qf n p m) zG (by dsimp only [St.put]; omega) ?_)
  refine yX rfl rfl rfl rfl ?_
  refine yX rfl rfl rfl rfl ?_
  try dsimp only [St.put]
  refine ae rfl (dr rfl rfl rfl (r8 n p (pgC p m) (du p m) uen hL) zG (by dsimp only [St.put]; omega) ?_)
  refine yM rfl rfl ?_
  refine yX rfl rfl rfl rfl ?_
  refine yX rfl rfl rfl rfl ?_
  try dsimp only [St.put]
  refine ae rfl (dm rfl ?_)
  try dsimp only [St.put]
  refine ae rfl (cp rfl rfl rfl zG rfl rfl (by rfl) ?_)
  refine yA rfl rfl ?_
  refine yN ?_
  dsimp only [St.put]
  refine K2 _ ?_
  refine yS fun _ K3 => ?_
  refine yS fun _ K4 => ?_
  refine yR ?_
  refine yM rfl rfl ?_
  refine aa rfl (fm rfl rfl rfl) ?_
  refine yN ?_
  dsimp only [St.put]
  refine K4 _ ?_
  refine ar rfl (fun hc => ?_) (fun hc => ?_)
  ·exact absurd hc (by decide)
  obtain ⟨h0, hTB⟩ := sr hL
  obtain ⟨hc0, j, x, rfl, hx, hpo⟩ := pt h0
  obtain ⟨hok, _⟩ := l5 hc0
  have hV : o6 p (j : Int) = ⟨0, (br p).alone (cn p) (c7 p) j⟩ := by unfold o6; rw [hL, ow, Int.toNat_natCast]
  refine ax ?_
  refine K3 _ ?_
  refine yS fun _ K5 => ?_
  refine yR ?_
  try dsimp only [St.put]
  refine bq rfl (iu rfl rfl zG trivial (by rfl)) ?_
  refine yM rfl rfl ?_
  try dsimp only [St.put]
  refine ae rfl (ay rfl rfl rfl (ua8 p (cn p) (c7 p) j x hok hx) ?_)
  refine aa rfl (gt rfl rfl) ?_
  try dsimp only [St.put]
  refine ae rfl (cp rfl rfl rfl zG rfl rfl (by rfl) ?_)
  refine yA rfl rfl ?_
  refine yN ?_
  dsimp only [St.put]
  refine K5 _ ?_
  refine aq ?_
  refine gl rfl (jo rfl zG (by rfl) zC rfl) (dq (by constructor)) zN zS ?_ ?_
  ·rw [hV]; exact zW
  rw [hL]; exact zW
 refine yR ?_
 refine yE rfl rfl rfl ?_
 refine yM rfl rfl ?_
 try dsimp only [St.put]
 refine ae rfl (dr rfl rfl rfl (qf n p m) zG (by dsimp only [St.put]; omega) ?_)
 refine yX rfl rfl rfl rfl ?_
 refine yX rfl rfl rfl rfl ?_
 try dsimp only [St.put]
 refine ae rfl (dr rfl rfl rfl (r9 n p (pgC p m) (du p m) uen hL) zG (by dsimp only [St.put]; omega) ?_)
 refine yM rfl rfl ?_
 refine yX rfl rfl rfl rfl ?_
 refine yX rfl rfl rfl rfl ?_
 try dsimp only [St.put]
 refine ae rfl (dm rfl ?_)
 try dsimp only [St.put]
 refine ae rfl (cp rfl rfl rfl zG rfl rfl (by rfl) ?_)
 refine yA rfl rfl ?_
 refine yN ?_
 dsimp only [St.put]
 refine K2 _ ?_
 refine yS fun _ K6 => ?_
 refine yS fun _ K7 => ?_
 refine yR ?_
 refine yM rfl rfl ?_
 refine aa rfl (fm rfl rfl rfl) ?_
 refine yN ?_
 dsimp only [St.put]
 refine K7 _ ?_
 refine ar rfl (fun hc => ?_) (fun hc => ?_)
 ·have hV : o6 p m = ⟨0, 0⟩ := by unfold o6; rw [kx hL]
  refine yS fun _ K8 => ?_
  refine yR ?_
  refine aa rfl (gt rfl rfl) ?_
  refine yM rfl rfl ?_
  try dsimp only [St.put]
  refine ae rfl (cp rfl rfl rfl zG rfl rfl (by rfl) ?_)
  refine yA rfl rfl ?_
  refine yN ?_
  dsimp only [St.put]
  refine K8 _ ?_
  refine aq ?_
  refine gl rfl (jo rfl zG (by rfl) zC rfl) (dq (by constructor)) zN zS ?_ ?_
  ·rw [hV]; exact zW
  exact zW
 exact absurd (gp hc) hL
theorem uie (n : Nat) (p : ah) : ep n em Tryd.prog 31 [val p] (.tup [val (p8 p), .v (.int .i64 (fp p (ce p)))]) := fun G nx hF hnx => by
 refine ie (G) (nx) Tryd.func31 rfl (.tup (bv (dv _ _) (bv .v cv))) zN (fun hlt => zH) ?_
 simp only [Tryd.ntmps31, List.length_cons, List.length_nil, Nat.reduceAdd, Nat.reduceSub]
 refine bl fun hlt => ?_
 dsimp only at hlt
 refine yS fun _ K1 => ?_
 refine yR ?_
 try dsimp only [St.put]
 refine yB rfl rfl rfl ?_
 try dsimp only [St.put]
 refine ae rfl (dm rfl ?_)
 refine yA rfl rfl ?_
 refine yN ?_
 dsimp only [St.put]
 refine K1 _ ?_
 refine yS fun _ K2 => ?_
 by_cases hL : fp p (ce p) = 0
 ·refine yR ?_
  refine yE rfl rfl rfl ?_
  try dsimp only [St.put]
  refine ae rfl (dr rfl rfl rfl (m9 n p) zG (by dsimp only [St.put]; omega) ?_)
  refine yX rfl rfl rfl rfl ?_
  refine yX rfl rfl rfl rfl ?_
  try dsimp only [St.put]
  refine ae rfl (dr rfl rfl rfl (r8 n p (jd p) (ce p) oq hL) zG (by dsimp only [St.put]; omega) ?_)
  refine yM rfl rfl ?_
  refine yX rfl rfl rfl rfl ?_
  refine yX rfl rfl rfl rfl ?_
  try dsimp only [St.put]
  refine ae rfl (dm rfl ?_)
  try dsimp only [St.put]
  refine ae rfl (cp rfl rfl rfl zG rfl rfl (by rfl) ?_)
  refine yA rfl rfl ?_
  refine yN ?_
  dsimp only [St.put]
  refine K2 _ ?_
  refine yS fun _ K3 => ?_
  refine yS fun _ K4 => ?_
  refine yR ?_
  refine yM rfl rfl ?_
  refine aa rfl (fm rfl rfl rfl) ?_
  refine yN ?_
  dsimp only [St.put]
  refine K4 _ ?_
  refine ar rfl (fun hc => ?_) (fun hc => ?_)
  ·exact absurd hc (by decide)
  obtain ⟨h0, hTB⟩ := sr hL
  obtain ⟨hok, _⟩ := l5 h0
  have hV : p8 p = ⟨0, (br p).most (cn p) (c7 p)⟩ := by unfold p8; rw [hL, ow]; rfl
  refine ax ?_
  refine K3 _ ?_
  refine yS fun _ K5 => ?_
  refine yR ?_
  try dsimp only [St.put]
  refine bq rfl (iu rfl rfl zG trivial (by rfl)) ?_
  try dsimp only [St.put]
  refine ae rfl (ay rfl rfl rfl (sb p (cn p) (c7 p) hok (tn hok)) ?_)
  refine aa rfl (gt rfl rfl) ?_
  try dsimp only [St.put]
  refine ae rfl (cp rfl rfl rfl zG rfl rfl (by rfl) ?_)
  refine yA rfl rfl ?_
  refine yN ?_
  dsimp only [St.put]
  refine K5 _ ?_
  refine aq ?_
  refine gl rfl (jo rfl zG (by rfl) zC rfl) (dq (by constructor)) zN zS ?_ ?_
  ·rw [hV]; exact zW
  rw [hL]; exact zW
 refine yR ?_
 refine yE rfl rfl rfl ?_
 try dsimp only [St.put]
 refine ae rfl (dr rfl rfl rfl (m9 n p) zG (by dsimp only [St.put]; omega) ?_)
 refine yX rfl rfl rfl rfl ?_
 refine yX rfl rfl rfl rfl ?_
 try dsimp only [St.put]
 refine ae rfl (dr rfl rfl rfl (r9 n p (jd p) (ce p) oq hL) zG (by dsimp only [St.put]; omega) ?_)
 refine yM rfl rfl ?_
 refine yX rfl rfl rfl rfl ?_
 refine yX rfl rfl rfl rfl ?_
 try dsimp only [St.put]
 refine ae rfl (dm rfl ?_)
 try dsimp only [St.put]
 refine ae rfl (cp rfl rfl rfl zG rfl rfl (by rfl) ?_)
 refine yA rfl rfl ?_
 refine yN ?_
 dsimp only [St.put]
 refine K2 _ ?_
 refine yS fun _ K6 => ?_
 refine yS fun _ K7 => ?_
 refine yR ?_
 refine yM rfl rfl ?_
 refine aa rfl (fm rfl rfl rfl) ?_
 refine yN ?_
 dsimp only [St.put]
 refine K7 _ ?_
 refine ar rfl (fun hc => ?_) (fun hc => ?_)
 ·have hV : p8 p = ⟨0, 0⟩ := by unfold p8; rw [kx hL]
  refine yS fun _ K8 => ?_
  refine yR ?_
  refine aa rfl (gt rfl rfl) ?_
  refine yM rfl rfl ?_
  try dsimp only [St.put]
  refine ae rfl (cp rfl rfl rfl zG rfl rfl (by rfl) ?_)
  refine yA rfl rfl ?_
  refine yN ?_
  dsimp only [St.put]
  refine K8 _ ?_
  refine aq ?_
  refine gl rfl (jo rfl zG (by rfl) zC rfl) (dq (by constructor)) zN zS ?_ ?_
  ·rw [hV]; exact zW
  exact zW
 exact absurd (gp hc) hL
set_option maxHeartbeats 1000000 in
theorem uh8 (n0 : Nat) (p : ah) : ep n0 em Tryd.prog 37 [val p] (.tup [lst (o1 p), .v (.int .i64 (fp p (ce p)))]) := fun G nx hF hnx => by
 refine ie (G) (nx) Tryd.func37 rfl (.tup (bv (bj _ _) (bv .v cv))) zN (fun hlt => zH) ?_
 simp only [Tryd.ntmps37, List.length_cons, List.length_nil, Nat.reduceAdd, Nat.reduceSub]
 refine bl fun hlt => ?_
 dsimp only at hlt
 refine yS fun _ K1 => ?_
 refine yR ?_
 try dsimp only [St.put]
 refine yB rfl rfl rfl ?_
 refine yA rfl rfl ?_
 refine yA rfl rfl ?_
 refine yN ?_
 dsimp only [St.put]
 refine K1 _ ?_
 refine yS fun _ K2 => ?_
 by_cases hL : fp p (ce p) = 0
 ·refine yR ?_
  refine yE rfl rfl rfl ?_
  try dsimp only [St.put]
  refine ae rfl (dr rfl rfl rfl (m9 n0 p) zG (by dsimp only [St.put]; omega) ?_)
  refine yX rfl rfl rfl rfl ?_
  refine yX rfl rfl rfl rfl ?_
  try dsimp only [St.put]
  refine ae rfl (dr rfl rfl rfl (r8 n0 p (jd p) (ce p) oq hL) zG (by dsimp only [St.put]; omega) ?_)
  refine yM rfl rfl ?_
  refine yX rfl rfl rfl rfl ?_
  refine yX rfl rfl rfl rfl ?_
  try dsimp only [St.put]
  refine ae rfl (dm rfl ?_)
  try dsimp only [St.put]
  refine ae rfl (cp rfl rfl rfl zG rfl rfl (by rfl) ?_)
  refine yA rfl rfl ?_
  refine yN ?_
  dsimp only [St.put]
  refine K2 _ ?_
  refine yS fun _ K3 => ?_
  refine yS fun _ K4 => ?_
  refine yR ?_
  refine yM rfl rfl ?_
  refine aa rfl (fm rfl rfl rfl) ?_
  refine yN ?_
  dsimp only [St.put]
  refine K4 _ ?_
  refine ar rfl (fun hc => ?_) (fun hc => ?_)
  ·exact absurd hc (by decide)
  obtain ⟨h0, hTB⟩ := sr hL
  obtain ⟨hok, _⟩ := l5 h0
  have hnp := hok.np
  have hV : o1 p = cd p.pages.length (i6 p) := by unfold o1; rw [hL, ow]
  refine ax ?_
  refine K3 _ ?_
  refine yS fun _ K5 => ?_
  refine yR ?_
  refine yA rfl rfl ?_
  refine yN ?_
  dsimp only [St.put]
  refine K5 _ ?_
  refine pr 6 3 1 rfl (by decide) ?_
  dsimp only [List.set_cons_zero, List.set_cons_succ]
  refine yS fun _ K6 => ?_
  refine yS fun _ K7 => ?_
  refine yR ?_
  refine yF rfl rfl rfl rfl ?_
  refine yL rfl rfl rfl ?_
  refine aa rfl (bf rfl rfl (List.length_map _)) ?_
  refine yM rfl rfl ?_
  refine yN ?_
  dsimp only [St.put]
  refine K7 _ ?_
  refine bh ?_
  refine ck 25 ?_
  refine zQ ?_
  refine dd ((ak (ak G nx (.box (0 + 1) (cells (fk p (rmR p 0) (rmC p 0))))) (nx + 1) (.tip (cd 0 (i6 p)).length 3 1))) zX ?_
  dsimp only
  refine dc (X := Nat) (fun i => i ≤ p.pages.length) (fun i => p.pages.length - i) (fun i => [(6, .list ((cd i (i6 p)).map cells) (.tip (nx + 1))), (7, .any), (8, .any), (9, .any), (24, .v (.int .i64 (i : Int)))]) (fun i G' => (ak (ak G nx (.box (i + 1) (cells (fk p (rmR p i) (rmC p i))))) (nx + 1) (.tip (cd i (i6 p)).length 3 1))) 0 rfl ?_ ?_ ?_ ?_ ?_ ?_
  ·exact Nat.zero_le _
  ·exact zF
  ·exact zX
  ·rintro i hI
   exact zL
  ·rintro i hI
   exact zH
  rintro i hI
  dsimp only at hI ⊢
  refine yS fun _ K8 => ?_
  refine yR ?_
  refine aa rfl (ci rfl rfl rfl) ?_
  refine yN ?_
  dsimp only [St.put]
  refine K8 _ ?_
  refine yS fun _ K9 => ?_
  refine ar rfl (fun hc => ?_) (fun hc => ?_)
  ·replace hc := of_decide_eq_true hc
   have hi : i < p.pages.length := by omega
   obtain ⟨x, hx⟩ : ∃ x, p.pages[i]? = some x := dj hi
   have hB := uap hok hTB (Nat.le_of_lt hi)
   have hP := zh hok hTB hi
   have hab := umr hB i
   have hmb := ub1 hB
   have hln := ja i (i6 p)
   have hPn := hP.nn
   refine ax ?_
   refine K9 _ ?_
   refine yS fun _ K10 => ?_
   refine bh ?_
   refine yS fun _ K11 => ?_
   refine yR ?_
   refine yM rfl rfl ?_
   refine yA rfl rfl ?_
   refine yN ?_
   dsimp only [St.put]
   refine K11 _ ?_
   refine yS fun _ K12 => ?_
   refine gn [(0, none), (2, none), (3, none), (1, none), (4, none), (5, none), (6, none)] (fun i => [4].contains i) (fun i => [1, 4].contains i) (fun i => [3, 5, 6].contains i) [nx] (by kernel_rfl) (by kernel_rfl) ?_
   try dsimp only [St.put]
   refine aw rfl rfl rfl rfl (iu rfl rfl zG (by simp) (by rfl)) ?_
   try dsimp only [St.put]
   refine aw rfl rfl rfl rfl (iu rfl rfl zG (by simp) (by rfl)) ?_
   refine xM rfl rfl rfl rfl rfl ?_
   refine ji ?_
   try dsimp only [St.put]
   refine j7 rfl rfl rfl (ay rfl rfl rfl (sb p _ _ hok hB) ⟨zD, ?_⟩)
   try dsimp only [St.put]
   refine ij rfl rfl rfl rfl (ay rfl rfl rfl (ua8 p (rmR p i) (rmC p i) i x hok hx) ?_)
   refine d7 rfl rfl rfl rfl (fe rfl (by constructor)) ?_
   refine d7 rfl rfl rfl rfl (fe rfl (by constructor)) ?_
   refine jh ?_
   dsimp only [St.put]
   refine K12 _ ?_
   refine yS fun _ K13 => ?_
   refine bh ?_
   refine ck 25 ?_
   refine zQ ?_
   refine dc (X := Int) (fun n => FromTop p (rmR p i) (rmC p i) i n) (fun n => n.toNat) (fun n => [(9, .v (.int .i64 n))]) (fun n G' => G') ((br p).alone (rmR p i) (rmC p i) i) rfl ?_ ?_ (fun _ _ h => h) ?_ ?_ ?_
   ·exact FromTop.start hP
   ·exact zF
   ·rintro n hI
    exact zL
   ·exact fun _ _ _ _ h => .inl h
   rintro n hF2
   dsimp only at hF2 ⊢
   have hF1 := hF2.1
   have hF3 := hF2.2.1
   have hBl := y6 hB (by omega) hF2.2.1
   have hmb2 := ub1 hBl
   refine yS fun _ K14 => ?_
   refine yS fun _ K15 => ?_
   refine yR ?_
   refine yM rfl rfl ?_
   try dsimp only [St.put]
   refine bq rfl (iu rfl rfl zG trivial (by rfl)) ?_
   refine yM rfl rfl ?_
   refine yM rfl rfl ?_
   try dsimp only [St.put]
   refine ae rfl (ay rfl rfl rfl (xi p (rmR p i) (rmC p i) i x n hok hx (by have := hF2.1; have := hF2.2.1; omega) hB.r) ?_)
   try dsimp only [St.put]
   refine ae rfl (ay rfl rfl rfl (sb p _ _ hok (y6 hB (by have := hF2.1; omega) hF2.2.1)) ?_)
   refine aa rfl (ca rfl rfl rfl (by omega)) ?_
   refine yM rfl rfl ?_
   refine aa rfl (ci rfl rfl rfl) ?_
   refine yN ?_
   dsimp only [St.put]
   refine K15 _ ?_
   refine ar rfl (fun hc => ?_) (fun hc => ?_)
   ·replace hc := of_decide_eq_true hc
    have hnot : ¬ (br p).most (rmR p i) (rmC p i) ≤ n + (br p).most ((br p).lessR (rmR p i) i n) (dw (rmC p i) i) := by omega
    refine ax ?_
    refine K14 _ ?_
    refine bh ?_
    refine yR ?_
    refine yM rfl rfl ?_
    refine aa rfl (gq rfl rfl rfl (by omega)) ?_
    refine yA rfl rfl ?_
    refine yN ?_
    dsimp only [St.put]
    have hd := FromTop.down hP hF2 hnot
    have hd1 := hd.1
    exact ⟨n - 1, by omega, hd, ⟨⟨rfl, rfl⟩, zF, zB, zN, zX⟩⟩
   replace hc := of_decide_eq_false hc
   have hnw := FromTop.stop hP hF2 (by omega)
   rw [← zi] at hnw
   subst hnw
   refine c5 ?_
   refine K13 _ ?_
   refine yS fun _ K16 => ?_
   refine yR ?_
   try dsimp only [St.put]
   refine bq rfl (iu rfl rfl zG trivial (by rfl)) ?_
   refine yM rfl rfl ?_
   refine yM rfl rfl ?_
   try dsimp only [St.put]
   refine ae rfl (ay rfl rfl rfl (xi p (rmR p i) (rmC p i) i x (i6 p i) hok hx (by have := hF2.1; have := hF2.2.1; omega) hB.r) ?_)
   try dsimp only [St.put]
   refine ae rfl (cp rfl rfl rfl zG rfl rfl (by rfl) ?_)
   refine yN ?_
   dsimp only [St.put]
   refine K16 _ ?_
   refine yR ?_
   refine yM rfl rfl ?_
   refine yM rfl rfl ?_
   try dsimp only [St.put]
   refine ae rfl (dl rfl rfl rfl (by decide) (by decide) zR (by decide) ?_)
   try dsimp only [St.put]
   refine ae rfl (kp ([i6 p i]) rfl rfl zG zE rfl rfl zA ?_ zA)
   refine yA rfl rfl ?_
   refine yN ?_
   dsimp only [St.put]
   refine K10 _ ?_
   refine yR ?_
   refine aa rfl (ca rfl rfl rfl (by omega)) ?_
   refine yM rfl rfl ?_
   refine yN ?_
   dsimp only [St.put]
   have e := ww i (i6 p)
   rw [← e]
   exact ⟨i + 1, by omega, by omega, ⟨⟨rfl, rfl⟩, zF, zB, zN, zX⟩⟩
  replace hc := of_decide_eq_false hc
  obtain rfl : i = p.pages.length := by omega
  refine c5 ?_
  refine K6 _ ?_
  refine yS fun _ K17 => ?_
  refine yR ?_
  refine yM rfl rfl ?_
  refine yA rfl rfl ?_
  refine yA rfl rfl ?_
  refine yN ?_
  dsimp only [St.put]
  refine K17 _ ?_
  refine aq ?_
  refine gl rfl (dq (by constructor)) (dq (by constructor)) zN zS ?_ ?_
  ·rw [hV]; exact zW
  rw [hL]; exact zW
 refine yR ?_
 refine yE rfl rfl rfl ?_
 try dsimp only [St.put]
 refine ae rfl (dr rfl rfl rfl (m9 n0 p) zG (by dsimp only [St.put]; omega) ?_)
 refine yX rfl rfl rfl rfl ?_
 refine yX rfl rfl rfl rfl ?_
 try dsimp only [St.put]
 refine ae rfl (dr rfl rfl rfl (r9 n0 p (jd p) (ce p) oq hL) zG (by dsimp only [St.put]; omega) ?_)
 refine yM rfl rfl ?_
 refine yX rfl rfl rfl rfl ?_
 refine yX rfl rfl rfl rfl ?_
 try dsimp only [St.put]
 refine ae rfl (dm rfl ?_)
 try dsimp only [St.put]
 refine ae rfl (cp rfl rfl rfl zG rfl rfl (by rfl) ?_)
 refine yA rfl rfl ?_
 refine yN ?_
 dsimp only [St.put]
 refine K2 _ ?_
 refine yS fun _ K18 => ?_
 refine yS fun _ K19 => ?_
 refine yR ?_
 refine yM rfl rfl ?_
 refine aa rfl (fm rfl rfl rfl) ?_
 refine yN ?_
 dsimp only [St.put]
 refine K19 _ ?_
 refine ar rfl (fun hc => ?_) (fun hc => ?_)
 ·have hV : o1 p = [] := by unfold o1; rw [kx hL]
  refine yS fun _ K20 => ?_
  refine yR ?_
  refine yM rfl rfl ?_
  refine yA rfl rfl ?_
  refine yA rfl rfl ?_
  refine yN ?_
  dsimp only [St.put]
  refine K20 _ ?_
  refine aq ?_
  refine gl rfl (dq (by constructor)) (dq (by constructor)) zN zS ?_ ?_
  ·rw [hV]; exact zW
  exact zW
 exact absurd (gp hc) hL
end Go.Proofs.YtbbdginipiljdaaDoor
namespace Go.Proofs.YtbbdginipiljdaaDoor
set_option maxRecDepth 10000
open Go Go.RowKit Go.AB
open Go.AB.Enc (cells)
open Go.PB (av aj PlaceD az bd bc bi am ah cc bg ct cw)
set_option maxHeartbeats 1000000 in
theorem ugz (nF : Nat) (n : Nat) (hb : n ≤ 8) : v8 nF em Tryd.prog 85 [.elem [.v (.int .i64 (n : Int))]] (2 ^ n) (fun s => [.v (.int .i64 (s : Int)), lst (ed n s)]) := by
 refine uco Tryd.func85 rfl rfl fun I hN hcl ok hG hn => ?_
 simp only [Tryd.ntmps85, List.length_cons, List.length_nil, Nat.reduceAdd, Nat.reduceSub]
 have h256 : 2 ^ n ≤ 2 ^ 8 := Nat.pow_le_pow_right (by omega) hb
 refine j4 2 ?_
 refine zQ ?_
 refine og ?_
 dsimp only [FC.st]
 refine bl fun hlt => ?_
 dsimp only at hlt
 refine im ?_
 try dsimp only [St.put]
 first | refine bq rfl (bn rfl rfl) ?_ | refine bq rfl (d9 rfl rfl (Enc.len _)) ?_ | refine bq rfl (d9 rfl rfl rfl) ?_ | refine bq rfl (fj rfl rfl zG trivial (by first | rfl | assumption)) ?_ | refine bq rfl (iu rfl rfl zG trivial (by rfl)) ?_ | refine bq rfl (o5 rfl rfl zG trivial (by simp)) ?_ | refine bq rfl (ke rfl rfl zG trivial (pm (by assumption) rfl)) ?_ | refine bq rfl (ke rfl rfl zG trivial (by assumption)) ?_ | refine bq rfl (qc rfl rfl zG trivial rfl (by assumption) rfl (by decide)) ?_ | refine bq rfl (mh rfl rfl zG (by rfl)) ?_
 refine aa rfl (ubu (n := n) rfl rfl rfl (by omega)) ?_
 refine aa rfl (f9 rfl (by constructor)) ?_
 refine io ?_
 dsimp only [St.put]
 show jn _ _ _ _ _ _ _
 refine oh ok rfl ⟨rfl, rfl, zK, zN, zS, zK⟩ ?_
 refine qq ?_
 refine j4 9 ?_
 refine zQ ?_
 refine yh (X := Nat) (fun s => s ≤ 2 ^ n) (fun s => 2 ^ n - s) (fun s => [(3, .any), (4, .any), (5, .any), (8, .v (.int .i64 (s : Int)))]) (fun s => s) 0 rfl ?_ ?_ ?_ ?_ ?_
 ·exact Nat.zero_le _
 ·exact zF
 ·rfl
 ·rintro s hI
  exact zL
 ·rintro s hI
  dsimp only at hI ⊢
  refine j4 9 ?_
  refine zQ ?_
  refine og ?_
  dsimp only [FC.st]
  refine bl fun hlt => ?_
  dsimp only at hlt
  refine im ?_
  refine aa rfl (ci rfl rfl rfl) ?_
  refine io ?_
  dsimp only [St.put]
  show jn _ _ _ _ _ _ _
  refine oh ok rfl ⟨rfl, rfl, zK, zN, zS, zK⟩ ?_
  refine oe fun K1 hK1 => ?_
  refine td rfl (fun hc => ?_) (fun hc => ?_)
  ·replace hc := of_decide_eq_true hc
   have hs : s < 2 ^ n := by omega
   refine ta ?_
   refine hK1 _ _ ?_
   refine oe fun K2 hK2 => ?_
   refine qq ?_
   refine j4 9 ?_
   refine zQ ?_
   refine og ?_
   dsimp only [FC.st]
   refine bl fun hlt => ?_
   dsimp only at hlt
   refine im ?_
   refine aa rfl (f9 rfl (by constructor)) ?_
   refine aa rfl (fe rfl (by constructor)) ?_
   refine io ?_
   dsimp only [St.put]
   show jn _ _ _ _ _ _ _
   refine vm ?_
   refine im ?_
   refine aa rfl (fe rfl (by constructor)) ?_
   refine io ?_
   dsimp only [St.put]
   show jn _ _ _ _ _ _ _
   refine vm ?_
   refine pr 4 3 1 rfl (by decide) ?_
   dsimp only [List.set_cons_zero, List.set_cons_succ]
   refine pq fun K3 hK3 => ?_
   refine im ?_
   try dsimp only [St.put]
   first | refine bq rfl (bn rfl rfl) ?_ | refine bq rfl (d9 rfl rfl (Enc.len _)) ?_ | refine bq rfl (d9 rfl rfl rfl) ?_ | refine bq rfl (fj rfl rfl zG trivial (by first | rfl | assumption)) ?_ | refine bq rfl (iu rfl rfl zG trivial (by rfl)) ?_ | refine bq rfl (o5 rfl rfl zG trivial (by simp)) ?_ | refine bq rfl (ke rfl rfl zG trivial (pm (by assumption) rfl)) ?_ | refine bq rfl (ke rfl rfl zG trivial (by assumption)) ?_ | refine bq rfl (qc rfl rfl zG trivial rfl (by assumption) rfl (by decide)) ?_ | refine bq rfl (mh rfl rfl zG (by rfl)) ?_
   refine aa rfl (f9 rfl (by constructor)) ?_
   refine io ?_
   dsimp only [St.put]
   refine hK3 _ ?_
   refine bh ?_
   refine ck 13 ?_
   refine zQ ?_
   refine dd ((ak (I.G s) I.nx (.tip (ed 0 s).length 3 1))) zX ?_
   dsimp only
   refine dc (X := Nat) (fun k => k ≤ n) (fun k => n - k) (fun k => [(4, .list ((ed k s).map cells) (.tip I.nx)), (5, .any), (12, .v (.int .i64 (k : Int)))]) (fun k G' => (ak (I.G s) I.nx (.tip (ed k s).length 3 1))) 0 rfl ?_ ?_ ?_ ?_ ?_ ?_
   ·exact Nat.zero_le _
   ·exact zF
   ·exact zX
   ·rintro k hI
    exact zL
   ·rintro k hI
    exact zH
   ·rintro k hK
    dsimp only at hK ⊢
    refine pq fun K4 hK4 => ?_
    refine im ?_
    refine aa rfl (ci rfl rfl rfl) ?_
    refine io ?_
    dsimp only [St.put]
    refine hK4 _ ?_
    refine pq fun K5 hK5 => ?_
    refine ar rfl (fun hc => ?_) (fun hc => ?_)
    ·replace hc := of_decide_eq_true hc
     have hml := sj k s
     refine ax ?_
     refine hK5 _ ?_
     refine pq fun K6 hK6 => ?_
     refine bh ?_
     refine pq fun K7 hK7 => ?_
     refine im ?_
     refine aa rfl (f9 rfl (by constructor)) ?_
     refine aa rfl (fe rfl (by constructor)) ?_
     refine io ?_
     dsimp only [St.put]
     refine hK7 _ ?_
     refine pq fun K8 hK8 => ?_
     refine im ?_
     refine aa rfl (f9 rfl (by constructor)) ?_
     refine aa rfl (f9 rfl (by constructor)) ?_
     refine aa rfl (xv (m := s) (n := k) rfl rfl rfl (by show k ≤ 64; omega) (by show (s : Int) ≤ 9223372036854775807; omega) (by decide)) ?_
     refine aa rfl (xy (m := s / 2 ^ k) rfl rfl rfl (Nat.lt_of_le_of_lt (Nat.div_le_self _ _) (by show s < 2 ^ 64; omega)) (by decide)) ?_
     refine aa rfl (ec rfl rfl rfl) ?_
     refine io ?_
     dsimp only [St.put]
     refine hK8 _ ?_
     refine ar rfl (fun hc => ?_) (fun hc => ?_)
     ·have hb1 : s.testBit k = true := bit_eq.1 (of_decide_eq_true hc)
      refine im ?_
      refine aa rfl (f9 rfl (by constructor)) ?_
      refine aa rfl (f9 rfl (by constructor)) ?_
      try dsimp only [St.put]
      refine ae rfl (dl rfl rfl rfl (by decide) (by decide) zR (by decide) ?_)
      try dsimp only [St.put]
      refine ae rfl (kp ([(k : Int)]) rfl rfl zG zE rfl rfl zA ?_ zA)
      refine aa rfl (fe rfl (by constructor)) ?_
      refine io ?_
      dsimp only [St.put]
      refine hK6 _ ?_
      refine im ?_
      first | refine aa rfl (ca rfl rfl rfl (by omega)) ?_ | refine aa rfl (si rfl rfl rfl) ?_
      refine aa rfl (f9 rfl (by constructor)) ?_
      refine io ?_
      dsimp only [St.put]
      have e := ub7 k s
      first
      | (have q : s.testBit k = true := hb1
         rw [q, cond_true] at e
         rw [← e]
         exact ⟨k + 1, by omega, by omega, ⟨⟨rfl, rfl⟩, zF, zB, zN, zX⟩⟩)
      | (have q : s.testBit k = false := hb0
         rw [q, cond_false, List.append_nil] at e
         rw [← e]
         exact ⟨k + 1, by omega, by omega, ⟨⟨rfl, rfl⟩, zF, zB, zN, zX⟩⟩)
     ·have hb0 : s.testBit k = false := by
       have := of_decide_eq_false hc
       rw [bit_eq, Bool.not_eq_true] at this
       exact this
      refine ax ?_
      refine hK6 _ ?_
      refine im ?_
      first | refine aa rfl (ca rfl rfl rfl (by omega)) ?_ | refine aa rfl (si rfl rfl rfl) ?_
      refine aa rfl (f9 rfl (by constructor)) ?_
      refine io ?_
      dsimp only [St.put]
      have e := ub7 k s
      first
      | (have q : s.testBit k = true := hb1
         rw [q, cond_true] at e
         rw [← e]
         exact ⟨k + 1, by omega, by omega, ⟨⟨rfl, rfl⟩, zF, zB, zN, zX⟩⟩)
      | (have q : s.testBit k = false := hb0
         rw [q, cond_false, List.append_nil] at e
         rw [← e]
         exact ⟨k + 1, by omega, by omega, ⟨⟨rfl, rfl⟩, zF, zB, zN, zX⟩⟩)
    ·replace hc := of_decide_eq_false hc
     obtain rfl : k = n := by omega
     refine vx 4 (lst (ed k s)) rfl Wk.tok ?_
     refine c5 ?_
     show jn _ _ _ _ _ _ _
     refine oh ok rfl ⟨rfl, rfl, zK, zN, zS, zK⟩ ?_
     refine oe fun K9 hK9 => ?_
     refine ucv ?_
     refine pk rfl (f9 rfl (by constructor)) ?_
     refine pk rfl (f9 rfl (by constructor)) ?_
     refine pk rfl (f9 rfl (by constructor)) ?_
     try dsimp only [St.put]
     refine ucy ok (by rw [hN]; exact hs) rfl rfl rfl rfl (by rw [hcl]; rfl) ?_
     refine pk rfl (dp rfl rfl) ?_
     refine ucz ?_
     dsimp only [St.put]
     refine hK9 _ _ ?_
     refine td rfl (fun h => by cases h) (fun _ => ?_)
     refine ta ?_
     refine hK2 _ _ ?_
     refine j4 9 ?_
     refine zQ ?_
     refine yg ok rfl ?_
     dsimp only [FC.st]
     refine bl fun hlt => ?_
     dsimp only at hlt
     refine im ?_
     first | refine aa rfl (ca rfl rfl rfl (by omega)) ?_ | refine aa rfl (si rfl rfl rfl) ?_
     refine aa rfl (f9 rfl (by constructor)) ?_
     refine io ?_
     dsimp only [St.put]
     refine ⟨⟨rfl, rfl, zK, zN, zS, zK⟩, ?_⟩
     exact ⟨s + 1, by omega, by omega, rfl, ⟨⟨rfl, rfl⟩, zF, zB, zN, zX⟩⟩
  ·replace hc := of_decide_eq_false hc
   obtain rfl : s = 2 ^ n := by omega
   refine yi ?_
   exact ⟨.inl rfl, rfl⟩
end Go.Proofs.YtbbdginipiljdaaDoor
namespace Go.AB
open Go Go.RowKit
open Go.AB.Enc (cells)
open Go.PB (av aj PlaceD az bd bc bi am ah cc bg ct cw)
theorem umh {so : Nat → Bool} {n k : Nat} : ((ei so n k).getD []).length ≤ n := by
 rcases vw so n k with ⟨h, _⟩ | ⟨b, h, k⟩
 ·rw [h]; exact Nat.zero_le _
 rw [h]
 obtain ⟨s, _, _, rfl⟩ := k.get
 exact sj n s
theorem umf {so : Nat → Bool} {n k : Nat} (h : so k = false) : ei so n (k + 1) = ei so n k := by
 cases hb : ei so n k with
 | none => rw [ueb hb, h]; rfl
 | some b => rw [y4 hb, h]; rfl
theorem umi {so : Nat → Bool} {n k : Nat} (hb : ei so n k = none) (h : so k = true) : ei so n (k + 1) = some (ed n k) := by rw [ueb hb, h]; rfl
theorem umg {so : Nat → Bool} {n k : Nat} {b : List Int} (hb : ei so n k = some b) (h : so k = true) : ei so n (k + 1) = bif ig (ed n k) b then some (ed n k) else some b := by rw [y4 hb, h]; rfl
theorem zq {α : Type} {l : List α} {k : Nat} {x : α} (h : l[k]? = some x) : l.take (k + 1) = l.take k ++ [x] := by rw [List.take_add_one, h]; rfl
theorem ufo (p : ah) (l : List Int) (z : Int) : my p (l ++ [z]) = my p l ++ bif decide (z < (p.firsts.length : Int)) then [z] else [] := by
 unfold my
 rw [List.filter_append]
 cases h : decide (z < (p.firsts.length : Int)) <;> simp [h]
theorem ufl (p : ah) (l : List Int) (z : Int) : mf p (l ++ [z]) = mf p l ++ bif decide (z < (p.firsts.length : Int)) then [] else [z - (p.firsts.length : Int)] := by
 unfold mf
 rw [List.filter_append, List.map_append]
 cases h : decide (z < (p.firsts.length : Int)) <;> simp [h]
theorem ufp (p : ah) (l : List Int) : (my p l).length ≤ l.length := List.length_filter_le _ _
theorem ufm (p : ah) (l : List Int) : (mf p l).length ≤ l.length := by
 unfold mf
 rw [List.length_map]
 exact List.length_filter_le _ _
theorem ufn {p : ah} {z : Int} (h : z ∈ gj p) : 0 ≤ z ∧ z < (bw p : Int) := by
 unfold gj mw at h
 rcases vw (p7 p) (bw p) (2 ^ bw p) with ⟨q, _⟩ | ⟨b, q, k⟩
 ·rw [q] at h; cases h
 rw [q] at h
 obtain ⟨s, _, _, rfl⟩ := k.get
 obtain ⟨i, rfl, hi, _⟩ := membersL_mem.1 h
 omega
end Go.AB
namespace Go.Proofs.YtbbdginipiljdaaDoor
set_option maxRecDepth 10000
open Go.RowKit Go.AB
open Go.AB.Enc (cells)
open Go.PB (av aj PlaceD az bd bc bi am ah cc bg ct cw)
end Go.Proofs.YtbbdginipiljdaaDoor
namespace Go.AB
open Go Go.RowKit
open Go.AB.Enc (cells)
open Go.PB (av aj PlaceD az bd bc bi am ah cc bg ct cw)
theorem ume {so : Nat → Bool} {n k : Nat} {b : List Int} (hb : ei so n k = some b) (h : ig (ed n k) b = false) : ei so n (k + 1) = some b := by rw [y4 hb, h, Bool.and_false]; rfl
theorem ueg {p : ah} {R C : Nat → Int} (h : Bd p R C) (l : List Int) : Bd p R (j9 C l) := ⟨h.r, fun j => by
 have := h.c j
 unfold j9
 cases decide ((j : Int) ∈ l)
 ·exact this
 exact ⟨Int.le_refl _, by show (0 : Int) ≤ 1000000; omega⟩, h.nr, h.np⟩
theorem ulz {p : ah} {m : Int} (h : ce p ≠ 0) : ix p m = ce p := by unfold ix; rw [decide_eq_false h]; rfl
theorem uly {p : ah} {m : Int} (h : ce p = 0) (hm : m < 0) : ix p m = 2 := by unfold ix; rw [decide_eq_true h, decide_eq_true hm]; rfl
theorem ul0 {p : ah} {m : Int} (h : ce p = 0) (hm : ¬ m < 0) (ht : i9 p = false) : ix p m = 8 := by unfold ix; rw [decide_eq_true h, decide_eq_false hm, ht]; rfl
theorem ulx {p : ah} {m : Int} (h : ce p = 0) (hm : ¬ m < 0) (ht : i9 p = true) : ix p m = 0 := by unfold ix; rw [decide_eq_true h, decide_eq_false hm, ht]; rfl
end Go.AB
namespace Go.Proofs.YtbbdginipiljdaaDoor
set_option maxRecDepth 10000
open Go.RowKit Go.AB
open Go.AB.Enc (cells)
open Go.PB (av aj PlaceD az bd bc bi am ah cc bg ct cw)
end Go.Proofs.YtbbdginipiljdaaDoor
