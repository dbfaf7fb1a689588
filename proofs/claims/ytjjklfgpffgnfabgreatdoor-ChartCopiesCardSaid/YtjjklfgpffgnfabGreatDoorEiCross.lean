/-
 Contracts of the program's functions of charts: lines that lead from one edition to another one.
-/
import Derived.Test.YtjjklfgpffgnfabGreatDoorEeTurn
import Derived.Test.YtjjklfgpffgnfabGreatDoorEhOrd
namespace Go.Proofs.YtjjklfgpffgnfabGreatDoor
set_option maxRecDepth 10000
open Go.RowKit Go.AB
open Go.AB.Enc (cells)
open Go.PB (bh af PlaceD ar bp cj)
instance : Ty Tryz.prog (srt_line_ren.t 24) true (Enc.n L2) := inferInstanceAs (Ty Tryz.prog 95 true 2)
theorem upk (t : af) (e f : aw) (hl : e.ss.length ≤ 20) (hlf : f.ss.length ≤ 20) (h : ge t e f ≠ 0) :
  c8 cr Tryz.prog 14 [b7 t, val e, val f] (.tup [lst (nw t e f), .v (.int .i64 (ge t e f))]) := by
 refine fw Tryz.func14 rfl (fun m => .tup (am (bd _ _) (am .v bn))) fun G nx hF => ?_
 simp only [Tryz.ntmps14, List.length_cons, List.length_nil, Nat.reduceAdd, Nat.reduceSub]
 refine bf fun hlt => ?_
 dsimp only at hlt
 have hnx := hlt 0 _ hF
 have hV : nw t e f = [] := by simp [nw, h]
 rw [hV]
 refine yS fun _ K1 => ?_
 refine yR ?_
 try dsimp only [St.put]
 refine yB rfl rfl rfl ?_
 try dsimp only [St.put]
 refine yB rfl rfl rfl ?_
 try dsimp only [St.put]
 refine yB rfl rfl rfl ?_
 refine yA rfl rfl ?_
 refine yA rfl rfl ?_
 refine yN ?_
 dsimp only [St.put]
 refine K1 _ ?_
 refine yS fun _ K2 => ?_
 refine yR ?_
 try dsimp only [St.put]
 refine ba rfl (bk rfl rfl rfl) ?_
 refine yE rfl rfl rfl ?_
 refine yE rfl rfl rfl ?_
 try dsimp only [St.put]
 refine ae rfl (cq rfl rfl rfl (by decide) (by decide) zR (by decide) ?_)
 try dsimp only [St.put]
 refine ae rfl (dq rfl rfl rfl (uah t e f hl hlf h) zG ?_)
 refine yM rfl rfl ?_
 refine yX rfl rfl rfl rfl ?_
 refine yX rfl rfl rfl rfl ?_
 refine yA rfl rfl ?_
 refine yA rfl rfl ?_
 refine yN ?_
 dsimp only [St.put]
 refine K2 _ ?_
 refine yS fun _ K3 => ?_
 refine yS fun _ K4 => ?_
 refine yR ?_
 refine yM rfl rfl ?_
 refine aa rfl (br (c := true) (cz rfl rfl rfl) (lf h)) ?_
 refine yN ?_
 dsimp only [St.put]
 refine K4 _ ?_
 refine ak rfl (fun _ => ?_) (fun h => by cases h)
 refine yS fun _ K5 => ?_
 refine yR ?_
 refine yM rfl rfl ?_
 refine yA rfl rfl ?_
 refine yA rfl rfl ?_
 refine yN ?_
 dsimp only [St.put]
 refine K5 _ ?_
 refine aj ?_
 refine dj rfl (ci (by constructor)) (ci (by constructor)) zN zS ?_ ?_
 ·exact zW
 exact zW
set_option maxHeartbeats 4000000 in
theorem upj (t : af) (e f : aw) (hl : e.ss.length ≤ 20) (hlf : f.ss.length ≤ 20) (hb : ge t e f = 0) :
  c8 cr Tryz.prog 14 [b7 t, val e, val f] (.tup [lst (nw t e f), .v (.int .i64 (ge t e f))]) := by
 refine fw Tryz.func14 rfl (fun m => .tup (am (bd _ _) (am .v bn))) fun G nx hF => ?_
 simp only [Tryz.ntmps14, List.length_cons, List.length_nil, Nat.reduceAdd, Nat.reduceSub]
 refine bf fun hlt => ?_
 dsimp only at hlt
 have hnx := hlt 0 _ hF
 obtain ⟨h, hh⟩ := zb hb
 have hS := mu h
 have hSf := mu hh
 have hok := hS.ok
 have hokf := hSf.ok
 refine yS fun _ K1 => ?_
 refine yR ?_
 try dsimp only [St.put]
 refine yB rfl rfl rfl ?_
 try dsimp only [St.put]
 refine yB rfl rfl rfl ?_
 try dsimp only [St.put]
 refine yB rfl rfl rfl ?_
 refine yA rfl rfl ?_
 refine yA rfl rfl ?_
 refine yN ?_
 dsimp only [St.put]
 refine K1 _ ?_
 refine yS fun _ K2 => ?_
 refine yR ?_
 try dsimp only [St.put]
 refine ba rfl (bk rfl rfl rfl) ?_
 refine yE rfl rfl rfl ?_
 refine yE rfl rfl rfl ?_
 try dsimp only [St.put]
 refine ae rfl (cq rfl rfl rfl (by decide) (by decide) zR (by decide) ?_)
 try dsimp only [St.put]
 refine ae rfl (iy rfl rfl rfl (ww t e f hl hlf h hh _ _ zG) (fun yy => ?_))
 refine yM rfl rfl ?_
 refine yX rfl rfl rfl rfl ?_
 refine yX rfl rfl rfl rfl ?_
 refine yA rfl rfl ?_
 refine yA rfl rfl ?_
 refine yN ?_
 dsimp only [St.put]
 refine K2 _ ?_
 refine yS fun _ K3 => ?_
 refine yS fun _ K4 => ?_
 refine yR ?_
 refine yM rfl rfl ?_
 refine aa rfl (br (c := false) (cz rfl rfl rfl) (by rfl)) ?_
 refine yN ?_
 dsimp only [St.put]
 refine K4 _ ?_
 refine ak rfl (fun h => by cases h) (fun _ => ?_)
 refine aq ?_
 refine K3 _ ?_
 refine yS fun _ K5 => ?_
 refine yR ?_
 refine yA rfl rfl ?_
 refine yN ?_
 dsimp only [St.put]
 refine K5 _ ?_
 refine zh 10 95 2 rfl (by decide) ?_
 dsimp only
 refine yS fun _ K6 => ?_
 refine yS fun _ K7 => ?_
 refine yR ?_
 refine yM rfl rfl ?_
 try dsimp only [St.put]
 refine aa rfl (b8 (k := 0) rfl rfl rfl (by first | rfl | omega) rfl rfl) ?_
 refine yL rfl rfl rfl ?_
 refine aa rfl (ie rfl rfl) ?_
 refine yF rfl rfl rfl rfl ?_
 refine yL rfl rfl rfl ?_
 try dsimp only [St.put]
 refine ae rfl (yq rfl rfl zG fun r β cl ks hnd hks0 hinj => ?_)
 refine yN ?_
 dsimp only [St.put]
 have hks : ∀ x, cn e.ss x ≠ none ↔ x ∈ ks := fun x => (not_congr capp_none).symm.trans (hks0 x)
 refine K7 _ ?_
 refine bg ?_
 refine di 39 ?_
 simp only [cx, bi, Nat.reduceAdd, List.getD_cons_zero, List.getD_cons_succ, List.getD_nil, dc, Nat.reduceBEq, cond_true, cond_false]
 refine dv ((ah (ah (ah (ah (ah (ah (ah G (nx + 1 + 1 + 1 + 1) (bl Tryz.prog 95 yy.1.1 (a8 (av e.ss)))) (nx + 1 + 1 + 1 + 1 + 1) (ky Tryz.prog 95 yy.1.2 (a8 (cn e.ss)) β cl)) (nx + 1 + 1 + 1 + 1 + 1 + 1 + 1) (bl Tryz.prog 95 yy.2.1 (a8 (av f.ss)))) (nx + 1 + 1 + 1 + 1 + 1 + 1 + 1 + 1) (bl Tryz.prog 95 yy.2.2 (a8 (cn f.ss)))) ((nx + 1 + 1 + 1 + 1 + 1 + 1 + 1 + 1 + 1)) ((.arr ((((([] : List L2)).filter (fun a => (ez e.ss f.ss a).isSome)))).length 0 95 2 ((((([] : List L2)).filter (fun a => (ez e.ss f.ss a).isSome)))).length (bt ((((([] : List L2)).filter (fun a => (ez e.ss f.ss a).isSome)))))))) ((nx + 1 + 1 + 1 + 1 + 1 + 1 + 1 + 1 + 1 + 1)) (.raw 0 (.mapIter (some r) cl (i1 β (([] : List L2))) cl))) ((nx + 1 + 1 + 1 + 1 + 1 + 1 + 1 + 1 + 1 + 1 + 1)) (.fact (.map (some r)) (.map ((nx + 1 + 1 + 1 + 1 + 1)))))) zX ?_
 dsimp only
 refine el (X := List L2 × Nat × Nat) (fun x => (∀ y ∈ x.1, y ∈ ks) ∧ x.1.Nodup) (fun x => qr ks x.1) (fun x => [(10, .own ((nx + 1 + 1 + 1 + 1 + 1 + 1 + 1 + 1 + 1)) ((x.1.filter (fun a => (ez e.ss f.ss a).isSome))).length ((x.1.filter (fun a => (ez e.ss f.ss a).isSome))).length), (11, .any), (12, .any), (13, .any), (14, .any)]) (fun x G' => (ah (ah (ah (ah (ah (ah (ah G (nx + 1 + 1 + 1 + 1) (bl Tryz.prog 95 yy.1.1 (a8 (av e.ss)))) (nx + 1 + 1 + 1 + 1 + 1) (ky Tryz.prog 95 yy.1.2 (a8 (cn e.ss)) β cl)) (nx + 1 + 1 + 1 + 1 + 1 + 1 + 1) (bl Tryz.prog 95 yy.2.1 (a8 (av f.ss)))) (nx + 1 + 1 + 1 + 1 + 1 + 1 + 1 + 1) (bl Tryz.prog 95 yy.2.2 (a8 (cn f.ss)))) ((nx + 1 + 1 + 1 + 1 + 1 + 1 + 1 + 1 + 1)) ((.arr (x.1.filter (fun a => (ez e.ss f.ss a).isSome)).length x.2.2 95 2 (x.1.filter (fun a => (ez e.ss f.ss a).isSome)).length (bt (x.1.filter (fun a => (ez e.ss f.ss a).isSome)))))) ((nx + 1 + 1 + 1 + 1 + 1 + 1 + 1 + 1 + 1 + 1)) (.raw x.2.1 (.mapIter (some r) cl (i1 β x.1) cl))) ((nx + 1 + 1 + 1 + 1 + 1 + 1 + 1 + 1 + 1 + 1 + 1)) (.fact (.map (some r)) (.map ((nx + 1 + 1 + 1 + 1 + 1)))))) ([], 0, 0) rfl ?_ ?_ ?_ ?_ ?_ ?_
 ·exact ⟨fun y hy => by simp at hy, List.nodup_nil⟩
 ·exact zF
 ·exact zX
 ·rintro ⟨done, wi, wv⟩ hI
  exact (by (try dsimp only); repeat' (first | exact trivial | refine ⟨?_, ?_⟩ | exact .v | exact .any | refine .elem ?_ | exact bd _ _ | exact ed _ _ | exact da _ _ | exact eg _ (by (try dsimp only); omega) | exact .box (by (try dsimp only); omega) | exact dp | exact bn | exact qy (fo _ _) | exact gd (fo _ _) | refine ef ?_ ?_ | exact .arr (by (try dsimp only); omega) | exact .own (by (try dsimp only); omega) | exact .map (by (try dsimp only); omega) | exact du _ | refine am ?_ ?_ | exact bd _ _))
 ·rintro ⟨done, wi, wv⟩ hI
  exact (by (repeat' (refine f9 ?_ (by (try dsimp only); omega) ?_)); all_goals (first | exact gw zS | (repeat' (first | exact trivial | refine ⟨?_, ?_⟩ | exact .v | exact .any | refine .elem ?_ | exact bd _ _ | exact ed _ _ | exact da _ _ | exact eg _ (by (try dsimp only); omega) | exact .box (by (try dsimp only); omega) | exact dp | exact bn | exact qy (fo _ _) | exact gd (fo _ _) | refine ef ?_ ?_ | exact .arr (by (try dsimp only); omega) | exact .own (by (try dsimp only); omega) | exact .map (by (try dsimp only); omega) | exact du _ | refine am ?_ ?_ | exact bd _ _))))
 rintro ⟨done, wi, wv⟩ hI
 dsimp only at hI ⊢
 refine yS fun _ K8 => ?_
 refine yR ?_
 try dsimp only [St.put]
 refine ae rfl (yr (done := done) rfl rfl zG zG zG (hks0) (hinj) (hI.1) (fun hend => ?_) (fun y c hym hyk hyd => ?_))
 ·have hys0 : ∀ x, x ∈ (done.filter (fun a => (ez e.ss f.ss a).isSome)) ↔ x ∈ ks ∧ (ez e.ss f.ss x).isSome = true := fun x => by
   rw [List.mem_filter]
   exact ⟨fun ⟨h1, h2⟩ => ⟨hI.1 x h1, h2⟩, fun ⟨h1, h2⟩ => ⟨hend x h1, h2⟩⟩
  have hnd : (done.filter (fun a => (ez e.ss f.ss a).isSome)).Nodup := List.Pairwise.filter _ hI.2
  have hbl := ufe hS hnd fun x hx => (hks x).2 ((hys0 x).1 hx).1
  have hxb : ∀ x ∈ (done.filter (fun a => (ez e.ss f.ss a).isSome)), LBd x := fun x hx => by
   obtain ⟨p, hp⟩ := Option.ne_none_iff_exists'.1 ((hks x).2 ((hys0 x).1 hx).1)
   have := l8 hok ((kp hS.no).1 hp)
   exact ⟨by omega, by omega, by omega, by omega⟩
  refine yX rfl rfl rfl rfl ?_
  refine yN ?_
  dsimp only [St.put]
  refine K8 _ ?_
  refine yS fun _ K9 => ?_
  refine ak rfl (fun h => by cases h) (fun _ => ?_)
  refine dl ?_
  refine K6 _ ?_
  refine yS fun _ K10 => ?_
  refine zd (n := (nx + 1 + 1 + 1 + 1 + 1)) zG ?_
  dsimp only
  refine yR ?_
  refine yM rfl rfl ?_
  try dsimp only [St.put]
  refine ae rfl (ud5 uhg LBd pp rfl rfl rfl rfl zG rfl rfl rfl (fun y hy => hy.plain) hxb (by omega) (fun a b _ _ => uoh a b _ _) uou (fun ys hperm hsort => ?_))
  refine yN ?_
  dsimp only [St.put]
  have hlen := hperm.length_eq
  have hyn : ys.Nodup := hperm.nodup_iff.2 hnd
  have hcr := uod (fs := f.ss) hS hks (fun x => hperm.mem_iff.trans (hys0 x)) (uht hsort hyn)
  have hcl : nw t e f = gn (ys.map (gu e.ss f.ss)) := by simp [nw, hb, ueh hcr]
  have hLb := uog hok hokf hcr
  have hmem : ∀ a ∈ ys, ∃ p u, cn e.ss a = some p ∧ av f.ss p = some u ∧ gu e.ss f.ss a = jf a u := fun a ha => by
   obtain ⟨u, hu⟩ := Option.isSome_iff_exists.1 ((hys0 a).1 (hperm.mem_iff.1 ha)).2
   obtain ⟨p, hp, hpu⟩ := overO_some.1 hu
   exact ⟨p, u, hp, hpu, by simp [gu, hu]⟩
  rw [← hlen] at hbl ⊢
  refine K10 _ ?_
  refine yS fun _ K11 => ?_
  refine yR ?_
  refine yA rfl rfl ?_
  refine yN ?_
  dsimp only [St.put]
  refine K11 _ ?_
  refine zh 15 53 5 rfl (by decide) ?_
  dsimp only
  refine yS fun _ K12 => ?_
  refine yR ?_
  refine aa rfl (i3 rfl rfl) ?_
  try dsimp only [St.put]
  refine ae rfl (bj rfl ?_)
  try dsimp only [St.put]
  refine ae rfl (ax rfl rfl rfl zG rfl rfl (by rfl) ?_)
  refine yN ?_
  dsimp only [St.put]
  refine K12 _ ?_
  refine yS fun _ K13 => ?_
  refine yS fun _ K14 => ?_
  refine yR ?_
  refine yM rfl rfl ?_
  refine aa rfl (qk rfl rfl) ?_
  refine yM rfl rfl ?_
  refine yN ?_
  dsimp only [St.put]
  refine K14 _ ?_
  refine bg ?_
  refine di 66 ?_
  simp only [cx, bi, Nat.reduceAdd, List.getD_cons_zero, List.getD_cons_succ, List.getD_nil, dc, Nat.reduceBEq, cond_true, cond_false]
  refine dv ((ah (ah (ah (ah (ah (ah (ah G (nx + 1 + 1 + 1 + 1) (bl Tryz.prog 95 yy.1.1 (a8 (av e.ss)))) (nx + 1 + 1 + 1 + 1 + 1) (bl Tryz.prog 95 yy.1.2 (a8 (cn e.ss)))) (nx + 1 + 1 + 1 + 1 + 1 + 1 + 1) (bl Tryz.prog 95 yy.2.1 (a8 (av f.ss)))) (nx + 1 + 1 + 1 + 1 + 1 + 1 + 1 + 1) (bl Tryz.prog 95 yy.2.2 (a8 (cn f.ss)))) ((nx + 1 + 1 + 1 + 1 + 1 + 1 + 1 + 1 + 1)) ((.arr ys.length (((wv + 1))) 95 2 ys.length (bt ys)))) ((nx + 1 + 1 + 1 + 1 + 1 + 1 + 1 + 1 + 1 + 1 + 1 + 1)) (.arr (([] : List dt)).length 0 53 5 (([] : List dt)).length (bt (([] : List dt))))) ((nx + 1 + 1 + 1 + 1 + 1 + 1 + 1 + 1 + 1 + 1 + 1 + 1 + 1)) (.box 1 (cells ((⟨(0, 0), (0, 0)⟩ : TwoL)))))) zX ?_
  dsimp only
  refine el (X := Nat × Nat × Nat × TwoL) (fun x => x.1 ≤ ys.length ∧ uc (gn ((ys.map (gu e.ss f.ss)).take x.1)) x.2.2.2) (fun x => ys.length - x.1) (fun x => [(15, .own ((nx + 1 + 1 + 1 + 1 + 1 + 1 + 1 + 1 + 1 + 1 + 1 + 1)) (gn ((ys.map (gu e.ss f.ss)).take x.1)).length (gn ((ys.map (gu e.ss f.ss)).take x.1)).length), (18, .any), (19, .any), (20, .any), (65, .v (.int .i64 (x.1 : Int)))]) (fun x G' => (ah (ah (ah (ah (ah (ah (ah G (nx + 1 + 1 + 1 + 1) (bl Tryz.prog 95 yy.1.1 (a8 (av e.ss)))) (nx + 1 + 1 + 1 + 1 + 1) (bl Tryz.prog 95 yy.1.2 (a8 (cn e.ss)))) (nx + 1 + 1 + 1 + 1 + 1 + 1 + 1) (bl Tryz.prog 95 yy.2.1 (a8 (av f.ss)))) (nx + 1 + 1 + 1 + 1 + 1 + 1 + 1 + 1) (bl Tryz.prog 95 yy.2.2 (a8 (cn f.ss)))) ((nx + 1 + 1 + 1 + 1 + 1 + 1 + 1 + 1 + 1)) ((.arr ys.length (((wv + 1))) 95 2 ys.length (bt ys)))) ((nx + 1 + 1 + 1 + 1 + 1 + 1 + 1 + 1 + 1 + 1 + 1 + 1)) (.arr ((gn ((ys.map (gu e.ss f.ss)).take x.1))).length x.2.1 53 5 ((gn ((ys.map (gu e.ss f.ss)).take x.1))).length (bt ((gn ((ys.map (gu e.ss f.ss)).take x.1)))))) ((nx + 1 + 1 + 1 + 1 + 1 + 1 + 1 + 1 + 1 + 1 + 1 + 1 + 1)) (.box x.2.2.1 (cells x.2.2.2)))) (0, 0, 1, ⟨(0, 0), (0, 0)⟩) rfl ?_ ?_ ?_ ?_ ?_ ?_
  ·exact ⟨Nat.zero_le _, .inl rfl⟩
  ·exact zF
  ·exact zX
  ·rintro ⟨k, wm, wb, nxt⟩ hI
   exact (by (try dsimp only); repeat' (first | exact trivial | refine ⟨?_, ?_⟩ | exact .v | exact .any | refine .elem ?_ | exact bd _ _ | exact ed _ _ | exact da _ _ | exact eg _ (by (try dsimp only); omega) | exact .box (by (try dsimp only); omega) | exact dp | exact bn | exact gd (fo _ _) | refine ef ?_ ?_ | exact .arr (by (try dsimp only); omega) | exact .own (by (try dsimp only); omega) | exact .map (by (try dsimp only); omega) | exact du _ | refine am ?_ ?_ | exact bd _ _))
  ·rintro ⟨k, wm, wb, nxt⟩ hI
   exact (by (repeat' (refine f9 ?_ (by (try dsimp only); omega) ?_)); all_goals (first | exact gw zS | (repeat' (first | exact trivial | refine ⟨?_, ?_⟩ | exact .v | exact .any | refine .elem ?_ | exact bd _ _ | exact ed _ _ | exact da _ _ | exact eg _ (by (try dsimp only); omega) | exact .box (by (try dsimp only); omega) | exact dp | exact bn | exact gd (fo _ _) | refine ef ?_ ?_ | exact .arr (by (try dsimp only); omega) | exact .own (by (try dsimp only); omega) | exact .map (by (try dsimp only); omega) | exact du _ | refine am ?_ ?_ | exact bd _ _))))
  rintro ⟨k, wm, wb, nxt⟩ hK
  dsimp only at hK ⊢
  obtain ⟨out, hout⟩ : ∃ out, gn ((ys.map (gu e.ss f.ss)).take k) = out := ⟨_, rfl⟩
  rw [hout] at hK ⊢
  have hol : out.length ≤ 60 := by
   have := uky ((ys.map (gu e.ss f.ss)).take k)
   rw [hout, List.length_take, List.length_map] at this
   omega
  have hob : ∀ s ∈ out, PBd (((ys.map (gu e.ss f.ss)).take k).length + 1) s := hout ▸ ukz fun r hr => hLb r (List.mem_of_mem_take hr)
  rw [List.length_take] at hob
  refine yS fun _ K15 => ?_
  refine yR ?_
  refine aa rfl (ck rfl rfl rfl) ?_
  refine yN ?_
  dsimp only [St.put]
  refine K15 _ ?_
  refine yS fun _ K16 => ?_
  refine ak rfl (fun hc => ?_) (fun hc => ?_)
  ·replace hc := of_decide_eq_true hc
   obtain ⟨a, ha⟩ : ∃ x, ys[k]? = some x := dw (by omega)
   obtain ⟨p, u, hp, hpu, hov⟩ := hmem a (e8 ha)
   have hax := l8 hok ((kp hS.no).1 hp)
   have hux := l8 hokf hpu
   refine aq ?_
   refine K16 _ ?_
   refine yS fun _ K17 => ?_
   refine bg ?_
   refine yS fun _ K18 => ?_
   refine yR ?_
   try dsimp only [St.put]
   refine aa rfl (ql (k := k) rfl rfl zG rfl (by first | exact rfl | omega) (by first | omega | (simp; omega))) ?_
   try dsimp only [St.put]
   refine ba rfl (uan (α := L2) (k := k) (y := a) rfl rfl zG trivial rfl ha rfl (by decide)) ?_
   try dsimp only [St.put]
   refine ae rfl (bj rfl ?_)
   try dsimp only [St.put]
   refine ae rfl (ax rfl rfl rfl zG rfl rfl (by rfl) ?_)
   refine yN ?_
   dsimp only [St.put]
   refine K18 _ ?_
   refine cw (i := 18) rfl zG (by first | exact List.cons_ne_nil _ _ | (simp; done) | (simp [putAt]; done)) ?_
   dsimp only
   refine yS fun _ K19 => ?_
   refine gh [(0, none), (1, none), (2, none), (3, none), (4, none), (5, none), (6, none), (7, none), (8, none), (9, none), (10, none), (11, none), (12, none), (13, none), (14, none), (15, none), (16, none)] (fun i => [16].contains i) (fun i => [15, 16].contains i) (fun i => [0, 1, 3, 4, 6, 7, 9, 10].contains i) [(nx + 1 + 1 + 1 + 1 + 1), (nx + 1 + 1 + 1 + 1 + 1 + 1 + 1)] (by kernel_rfl) (by kernel_rfl) ?_
   refine xM rfl rfl rfl rfl rfl ?_
   try dsimp only [St.put]
   refine ai rfl rfl rfl rfl (b8 (k := 1) rfl rfl rfl (by first | rfl | omega) rfl rfl) ?_
   try dsimp only [St.put]
   refine az rfl rfl rfl rfl (bq rfl rfl) ?_
   refine ai rfl rfl rfl rfl (ie rfl rfl) ?_
   refine ai rfl rfl rfl rfl (cd rfl rfl rfl) ?_
   try dsimp only [St.put]
   refine az rfl rfl rfl rfl (bq rfl rfl) ?_
   refine xM rfl rfl rfl rfl rfl ?_
   try dsimp only [St.put]
   refine ai rfl rfl rfl rfl (b8 (k := 0) rfl rfl rfl (by first | rfl | omega) rfl rfl) ?_
   try dsimp only [St.put]
   refine az rfl rfl rfl rfl (bq rfl rfl) ?_
   refine ai rfl rfl rfl rfl (ie rfl rfl) ?_
   refine ai rfl rfl rfl rfl (cd rfl rfl rfl) ?_
   try dsimp only [St.put]
   refine az rfl rfl rfl rfl (bq rfl rfl) ?_
   try dsimp only [St.put]
   refine az rfl rfl rfl rfl (bk rfl rfl (Enc.len _)) ?_
   try dsimp only [St.put]
   refine az rfl rfl rfl rfl (wy a rfl rfl zG (by simp) rfl (sy hp)) ?_
   try dsimp only [St.put]
   refine az rfl rfl rfl rfl (wy p rfl rfl zG (by simp) rfl (sy hpu)) ?_
   refine il ?_
   try dsimp only [St.put]
   refine jp rfl rfl rfl (bj rfl ⟨zD, ?_⟩)
   try dsimp only [St.put]
   refine gl rfl rfl rfl rfl (ax rfl rfl rfl zG rfl rfl (by rfl) ?_)
   refine ij ?_
   dsimp only [St.put]
   refine K19 _ ?_
   refine cw (i := 19) rfl zG (by first | exact List.cons_ne_nil _ _ | (simp; done) | (simp [putAt]; done)) ?_
   dsimp only
   refine yS fun _ K20 => ?_
   refine yS fun _ K21 => ?_
   refine yR ?_
   refine yE rfl rfl rfl ?_
   try dsimp only [St.put]
   refine ba rfl (bk rfl rfl rfl) ?_
   refine aa rfl (i3 rfl rfl) ?_
   try dsimp only [St.put]
   refine ae rfl (bj rfl ?_)
   try dsimp only [St.put]
   refine ae rfl (ax rfl rfl rfl zG rfl rfl (by rfl) ?_)
   refine yN ?_
   dsimp only [St.put]
   refine K21 _ ?_
   refine cw (i := 20) rfl zG (by first | exact List.cons_ne_nil _ _ | (simp; done) | (simp [putAt]; done)) ?_
   dsimp only
   refine yS fun _ K22 => ?_
   refine yR ?_
   refine yM rfl rfl ?_
   refine aa rfl (qk rfl rfl) ?_
   refine aa rfl (io rfl rfl rfl) ?_
   refine et (fun hs => ?_) (fun hs => ?_)
   ·have h2 := of_decide_eq_true hs
    obtain ⟨s, hz⟩ : ∃ x, out[out.length - 1]? = some x := dw (by omega)
    obtain ⟨b1, b2, b3, b4, b5⟩ := hob s (e8 hz)
    refine yM rfl rfl ?_
    try dsimp only [St.put]
    refine ba rfl (bk rfl rfl rfl) ?_
    try dsimp only [St.put]
    refine ba rfl (i6 rfl rfl zG trivial (by rfl)) ?_
    refine aa rfl (nj (x := TwoL.mk a u) (y := nxt) rfl rfl rfl) ?_
    refine aa rfl (co rfl rfl (by constructor)) ?_
    refine yN ?_
    dsimp only [St.put]
    refine K22 _ ?_
    refine ak rfl (fun hc => ?_) (fun hc => ?_)
    ·have ho := uag hz ((xn hK.2 hz).symm.trans hc)
     refine yR ?_
     refine yM rfl rfl ?_
     refine yM rfl rfl ?_
     refine aa rfl (qk rfl rfl) ?_
     refine aa rfl (g9 rfl rfl rfl (by omega)) ?_
     try dsimp only [St.put]
     refine aa rfl (ql (k := (out.length - 1)) rfl rfl zG rfl (by first | exact rfl | omega) (by first | omega | (simp; omega))) ?_
     refine aa rfl (ip rfl rfl) ?_
     try dsimp only [St.put]
     refine ba rfl (uao rfl rfl zG trivial (yj (by assumption) rfl)) ?_
     refine aa rfl (ca rfl rfl rfl (by omega)) ?_
     try dsimp only [St.put]
     refine aa rfl (ql (k := (out.length - 1)) rfl rfl zG rfl (by first | exact rfl | omega) (by first | omega | (simp; omega))) ?_
     refine aa rfl (ip rfl rfl) ?_
     try dsimp only [St.put]
     refine ae rfl (uns (k := out.length - 1) (j := 4) (z := s) (z' := { s with n := s.n + 1 }) rfl rfl rfl zG rfl rfl hz rfl (by decide) rfl ?_)
     refine yN ?_
     dsimp only [St.put]
     refine K20 _ ?_
     refine yR ?_
     try dsimp only [St.put]
     refine aa rfl (em (k := 0) rfl rfl rfl (by first | exact rfl | omega) (by first | decide | omega) rfl) ?_
     refine yL rfl rfl rfl ?_
     try dsimp only [St.put]
     refine aa rfl (em (k := 1) rfl rfl rfl (by first | exact rfl | omega) (by first | decide | omega) rfl) ?_
     refine yL rfl rfl rfl ?_
     refine aa rfl (ca rfl rfl rfl (by omega)) ?_
     refine aa rfl (i3 rfl rfl) ?_
     try dsimp only [St.put]
     refine aa rfl (em (k := 0) rfl rfl rfl (by first | exact rfl | omega) (by first | decide | omega) rfl) ?_
     refine yL rfl rfl rfl ?_
     try dsimp only [St.put]
     refine aa rfl (em (k := 1) rfl rfl rfl (by first | exact rfl | omega) (by first | decide | omega) rfl) ?_
     refine yL rfl rfl rfl ?_
     refine aa rfl (ca rfl rfl rfl (by omega)) ?_
     refine aa rfl (i3 rfl rfl) ?_
     refine aa rfl (i3 rfl rfl) ?_
     try dsimp only [St.put]
     refine ae rfl (ax rfl rfl rfl zG rfl rfl (by rfl) ?_)
     refine yN ?_
     dsimp only [St.put]
     refine K17 _ ?_
     refine yR ?_
     refine aa rfl (ca rfl rfl rfl (by omega)) ?_
     refine yM rfl rfl ?_
     refine yN ?_
     dsimp only [St.put]
     have e2 := ug (cg (f := gu e.ss f.ss) ha)
     rw [hout, hov] at e2
     have hnq := xm a u hK.2
     first
     | (rw [hm] at e2 hnq
        have e3 : out.length + 1 = (gn ((ys.map (gu e.ss f.ss)).take (k + 1))).length := by rw [e2]; simp
        rw [← e2] at hnq ⊢
        rw [e3]
        exact ⟨(k + 1, wm, wb + 1, ⟨(a.1, a.2 + 1), (u.1, u.2 + 1)⟩), by (dsimp only; omega), ⟨by (dsimp only; omega), hnq⟩, ⟨⟨rfl, rfl⟩, zF, zB, zN, zX⟩⟩)
     | (rw [ho] at e2 hnq
        have e3 : out.length = (gn ((ys.map (gu e.ss f.ss)).take (k + 1))).length := by rw [e2]; simp
        rw [← e2] at hnq ⊢
        rw [e3]
        exact ⟨(k + 1, wm + 1, wb + 1, ⟨(a.1, a.2 + 1), (u.1, u.2 + 1)⟩), by (dsimp only; omega), ⟨by (dsimp only; omega), hnq⟩, ⟨⟨rfl, rfl⟩, zF, zB, zN, zX⟩⟩)
    try have hm := wl hz ((xn hK.2 hz).symm.trans hc)
    refine yR ?_
    refine yM rfl rfl ?_
    try dsimp only [St.put]
    refine aa rfl (em (k := 0) rfl rfl rfl (by first | exact rfl | omega) (by first | decide | omega) rfl) ?_
    refine yL rfl rfl rfl ?_
    try dsimp only [St.put]
    refine aa rfl (em (k := 1) rfl rfl rfl (by first | exact rfl | omega) (by first | decide | omega) rfl) ?_
    refine yL rfl rfl rfl ?_
    try dsimp only [St.put]
    refine aa rfl (em (k := 0) rfl rfl rfl (by first | exact rfl | omega) (by first | decide | omega) rfl) ?_
    refine yL rfl rfl rfl ?_
    try dsimp only [St.put]
    refine aa rfl (em (k := 1) rfl rfl rfl (by first | exact rfl | omega) (by first | decide | omega) rfl) ?_
    refine yL rfl rfl rfl ?_
    refine aa rfl (dg rfl rfl) ?_
    try dsimp only [St.put]
    refine ae rfl (cq rfl rfl rfl (by decide) (by decide) zR (by decide) ?_)
    try dsimp only [St.put]
    refine ae rfl (re (jf a u) rfl rfl zG rfl rfl rfl rfl zA ?_ zA)
    refine yA rfl rfl ?_
    refine yN ?_
    dsimp only [St.put]
    refine K20 _ ?_
    refine yR ?_
    try dsimp only [St.put]
    refine aa rfl (em (k := 0) rfl rfl rfl (by first | exact rfl | omega) (by first | decide | omega) rfl) ?_
    refine yL rfl rfl rfl ?_
    try dsimp only [St.put]
    refine aa rfl (em (k := 1) rfl rfl rfl (by first | exact rfl | omega) (by first | decide | omega) rfl) ?_
    refine yL rfl rfl rfl ?_
    refine aa rfl (ca rfl rfl rfl (by omega)) ?_
    refine aa rfl (i3 rfl rfl) ?_
    try dsimp only [St.put]
    refine aa rfl (em (k := 0) rfl rfl rfl (by first | exact rfl | omega) (by first | decide | omega) rfl) ?_
    refine yL rfl rfl rfl ?_
    try dsimp only [St.put]
    refine aa rfl (em (k := 1) rfl rfl rfl (by first | exact rfl | omega) (by first | decide | omega) rfl) ?_
    refine yL rfl rfl rfl ?_
    refine aa rfl (ca rfl rfl rfl (by omega)) ?_
    refine aa rfl (i3 rfl rfl) ?_
    refine aa rfl (i3 rfl rfl) ?_
    try dsimp only [St.put]
    refine ae rfl (ax rfl rfl rfl zG rfl rfl (by rfl) ?_)
    refine yN ?_
    dsimp only [St.put]
    refine K17 _ ?_
    refine yR ?_
    refine aa rfl (ca rfl rfl rfl (by omega)) ?_
    refine yM rfl rfl ?_
    refine yN ?_
    dsimp only [St.put]
    have e2 := ug (cg (f := gu e.ss f.ss) ha)
    rw [hout, hov] at e2
    have hnq := xm a u hK.2
    first
    | (rw [hm] at e2 hnq
       have e3 : out.length + 1 = (gn ((ys.map (gu e.ss f.ss)).take (k + 1))).length := by rw [e2]; simp
       rw [← e2] at hnq ⊢
       rw [e3]
       exact ⟨(k + 1, wm, wb + 1, ⟨(a.1, a.2 + 1), (u.1, u.2 + 1)⟩), by (dsimp only; omega), ⟨by (dsimp only; omega), hnq⟩, ⟨⟨rfl, rfl⟩, zF, zB, zN, zX⟩⟩)
    | (rw [ho] at e2 hnq
       have e3 : out.length = (gn ((ys.map (gu e.ss f.ss)).take (k + 1))).length := by rw [e2]; simp
       rw [← e2] at hnq ⊢
       rw [e3]
       exact ⟨(k + 1, wm + 1, wb + 1, ⟨(a.1, a.2 + 1), (u.1, u.2 + 1)⟩), by (dsimp only; omega), ⟨by (dsimp only; omega), hnq⟩, ⟨⟨rfl, rfl⟩, zF, zB, zN, zX⟩⟩)
   have h2 := of_decide_eq_false hs
   have hm : j3 out (jf a u) = out ++ [jf a u] := ug8 (List.eq_nil_of_length_eq_zero (by omega))
   refine yM rfl rfl ?_
   refine yK rfl ?_
   refine yK rfl ?_
   refine yK rfl ?_
   refine aa rfl (dh rfl rfl (by constructor)) ?_
   refine yN ?_
   dsimp only [St.put]
   refine K22 _ ?_
   refine ak rfl (fun h => by cases h) (fun _ => ?_)
   try have hm := wl hz ((xn hK.2 hz).symm.trans hc)
   refine yR ?_
   refine yM rfl rfl ?_
   try dsimp only [St.put]
   refine aa rfl (em (k := 0) rfl rfl rfl (by first | exact rfl | omega) (by first | decide | omega) rfl) ?_
   refine yL rfl rfl rfl ?_
   try dsimp only [St.put]
   refine aa rfl (em (k := 1) rfl rfl rfl (by first | exact rfl | omega) (by first | decide | omega) rfl) ?_
   refine yL rfl rfl rfl ?_
   try dsimp only [St.put]
   refine aa rfl (em (k := 0) rfl rfl rfl (by first | exact rfl | omega) (by first | decide | omega) rfl) ?_
   refine yL rfl rfl rfl ?_
   try dsimp only [St.put]
   refine aa rfl (em (k := 1) rfl rfl rfl (by first | exact rfl | omega) (by first | decide | omega) rfl) ?_
   refine yL rfl rfl rfl ?_
   refine aa rfl (dg rfl rfl) ?_
   try dsimp only [St.put]
   refine ae rfl (cq rfl rfl rfl (by decide) (by decide) zR (by decide) ?_)
   try dsimp only [St.put]
   refine ae rfl (re (jf a u) rfl rfl zG rfl rfl rfl rfl zA ?_ zA)
   refine yA rfl rfl ?_
   refine yN ?_
   dsimp only [St.put]
   refine K20 _ ?_
   refine yR ?_
   try dsimp only [St.put]
   refine aa rfl (em (k := 0) rfl rfl rfl (by first | exact rfl | omega) (by first | decide | omega) rfl) ?_
   refine yL rfl rfl rfl ?_
   try dsimp only [St.put]
   refine aa rfl (em (k := 1) rfl rfl rfl (by first | exact rfl | omega) (by first | decide | omega) rfl) ?_
   refine yL rfl rfl rfl ?_
   refine aa rfl (ca rfl rfl rfl (by omega)) ?_
   refine aa rfl (i3 rfl rfl) ?_
   try dsimp only [St.put]
   refine aa rfl (em (k := 0) rfl rfl rfl (by first | exact rfl | omega) (by first | decide | omega) rfl) ?_
   refine yL rfl rfl rfl ?_
   try dsimp only [St.put]
   refine aa rfl (em (k := 1) rfl rfl rfl (by first | exact rfl | omega) (by first | decide | omega) rfl) ?_
   refine yL rfl rfl rfl ?_
   refine aa rfl (ca rfl rfl rfl (by omega)) ?_
   refine aa rfl (i3 rfl rfl) ?_
   refine aa rfl (i3 rfl rfl) ?_
   try dsimp only [St.put]
   refine ae rfl (ax rfl rfl rfl zG rfl rfl (by rfl) ?_)
   refine yN ?_
   dsimp only [St.put]
   refine K17 _ ?_
   refine yR ?_
   refine aa rfl (ca rfl rfl rfl (by omega)) ?_
   refine yM rfl rfl ?_
   refine yN ?_
   dsimp only [St.put]
   have e2 := ug (cg (f := gu e.ss f.ss) ha)
   rw [hout, hov] at e2
   have hnq := xm a u hK.2
   first
   | (rw [hm] at e2 hnq
      have e3 : out.length + 1 = (gn ((ys.map (gu e.ss f.ss)).take (k + 1))).length := by rw [e2]; simp
      rw [← e2] at hnq ⊢
      rw [e3]
      exact ⟨(k + 1, wm, wb + 1, ⟨(a.1, a.2 + 1), (u.1, u.2 + 1)⟩), by (dsimp only; omega), ⟨by (dsimp only; omega), hnq⟩, ⟨⟨rfl, rfl⟩, zF, zB, zN, zX⟩⟩)
   | (rw [ho] at e2 hnq
      have e3 : out.length = (gn ((ys.map (gu e.ss f.ss)).take (k + 1))).length := by rw [e2]; simp
      rw [← e2] at hnq ⊢
      rw [e3]
      exact ⟨(k + 1, wm + 1, wb + 1, ⟨(a.1, a.2 + 1), (u.1, u.2 + 1)⟩), by (dsimp only; omega), ⟨by (dsimp only; omega), hnq⟩, ⟨⟨rfl, rfl⟩, zF, zB, zN, zX⟩⟩)
  replace hc := of_decide_eq_false hc
  refine dl ?_
  refine K13 _ ?_
  refine yS fun _ K23 => ?_
  refine yR ?_
  refine yM rfl rfl ?_
  refine yA rfl rfl ?_
  refine yA rfl rfl ?_
  refine yN ?_
  dsimp only [St.put]
  have hf : out = gn (ys.map (gu e.ss f.ss)) := by rw [← hout, fj (show (ys.map (gu e.ss f.ss)).length ≤ k by rw [List.length_map]; omega)]
  subst hf
  refine K23 _ ?_
  refine ufi 6 (gn (ys.map (gu e.ss f.ss))) rfl zG rfl rfl rfl ?_
  dsimp only
  refine aj ?_
  refine ix rfl (by constructor) (by constructor) zN zS ?_ ?_
  ·rw [hcl]
   rfl
  exact vi hb.symm
 obtain ⟨p, hp, rfl⟩ := upo hym
 have hIn : ∀ z ∈ ks, ∀ x ∈ done ++ [z], x ∈ ks := fun z hz x hx => by
  rcases List.mem_append.1 hx with hx | hx
  ·exact hI.1 x hx
  rw [List.mem_singleton] at hx; exact hx ▸ hz
 have hIu : ∀ z, z ∉ done → (done ++ [z]).Nodup := fun z hz => List.nodup_append.2 ⟨hI.2, by simp, fun a ha b hb => by
  rw [List.mem_singleton] at hb; subst hb; exact fun e => hz (e ▸ ha)⟩
 refine yX rfl rfl rfl rfl ?_
 refine yN ?_
 dsimp only [St.put]
 refine K8 _ ?_
 refine yS fun _ K24 => ?_
 refine ak rfl (fun _ => ?_) (fun h => by cases h)
 refine aq ?_
 refine K24 _ ?_
 refine bg ?_
 refine yS fun _ K25 => ?_
 refine yR ?_
 try dsimp only [St.put]
 refine ba rfl (wz (fx := (nx + 1 + 1 + 1 + 1 + 1 + 1 + 1 + 1 + 1 + 1 + 1)) (n := (nx + 1 + 1 + 1 + 1 + 1)) rfl rfl zG trivial zG zG trivial (by assumption)) ?_
 refine yX rfl rfl rfl rfl ?_
 refine yX rfl rfl rfl rfl ?_
 try dsimp only [St.put]
 refine ae rfl (bj rfl ?_)
 try dsimp only [St.put]
 refine ae rfl (bj rfl ?_)
 try dsimp only [St.put]
 refine ae rfl (ax rfl rfl rfl zG rfl rfl (by rfl) ?_)
 try dsimp only [St.put]
 refine ae rfl (ax rfl rfl rfl zG rfl rfl (by rfl) ?_)
 refine yN ?_
 dsimp only [St.put]
 refine K25 _ ?_
 refine cw (i := 11) rfl zG (by first | exact List.cons_ne_nil _ _ | (simp; done) | (simp [putAt]; done)) ?_
 refine cw (i := 12) rfl zG (by first | exact List.cons_ne_nil _ _ | (simp; done) | (simp [putAt]; done)) ?_
 dsimp only
 refine yS fun _ K26 => ?_
 obtain ⟨v1, hv1⟩ : ∃ v : L2, (a8 (av f.ss) p).getD (ia (.agg #[.int .i64 0, .int .i64 0])) = .agg [.v (.int .i64 v.1), .v (.int .i64 v.2)] := oh _ _
 obtain ⟨b1, hb1⟩ : ∃ b, (a8 (av f.ss) p).isSome = b := ⟨_, rfl⟩
 have hov0 : (ez e.ss f.ss y).isSome = b1 := by rw [← hb1]; simp [ez, hp, a8]
 refine gh [(0, none), (1, none), (2, none), (3, none), (4, none), (5, none), (6, none), (7, none), (8, none), (9, none), (10, none), (11, none), (12, none), (13, none)] (fun i => [12].contains i) (fun i => [11, 12].contains i) (fun i => [0, 1, 3, 4, 8, 9, 10, 13].contains i) [(nx + 1 + 1 + 1 + 1 + 1 + 1 + 1)] (by kernel_rfl) (by kernel_rfl) ?_
 refine xM rfl rfl rfl rfl rfl ?_
 try dsimp only [St.put]
 refine ai rfl rfl rfl rfl (b8 (k := 1) rfl rfl rfl (by first | rfl | omega) rfl rfl) ?_
 try dsimp only [St.put]
 refine az rfl rfl rfl rfl (bq rfl rfl) ?_
 refine ai rfl rfl rfl rfl (ie rfl rfl) ?_
 refine ai rfl rfl rfl rfl (cd rfl rfl rfl) ?_
 try dsimp only [St.put]
 refine az rfl rfl rfl rfl (bq rfl rfl) ?_
 try dsimp only [St.put]
 refine az rfl rfl rfl rfl (bk rfl rfl rfl) ?_
 try dsimp only [St.put]
 refine az rfl rfl rfl rfl (n3 p rfl rfl zG (by simp) rfl hv1 hb1) ?_
 refine xM rfl rfl rfl rfl rfl ?_
 refine ai rfl rfl rfl rfl (d9 rfl rfl rfl) ?_
 refine ai rfl rfl rfl rfl (d9 rfl rfl rfl) ?_
 refine il ?_
 try dsimp only [St.put]
 refine jp rfl rfl rfl (bj rfl ⟨zD, ?_⟩)
 try dsimp only [St.put]
 refine gl rfl rfl rfl rfl (ax rfl rfl rfl zG rfl rfl (by rfl) ?_)
 refine jl rfl rfl rfl rfl (eh rfl (by constructor)) ?_
 refine ij ?_
 dsimp only [St.put]
 refine K26 _ ?_
 refine yS fun _ K27 => ?_
 refine yR ?_
 refine yM rfl rfl ?_
 refine yN ?_
 dsimp only [St.put]
 refine K27 _ ?_
 refine ak rfl (fun hc => ?_) (fun hc => ?_)
 ·have hov : (ez e.ss f.ss y).isSome = true := hov0.trans hc
  have hbl := ufe hS (List.Pairwise.filter (fun a => (ez e.ss f.ss a).isSome) hI.2) fun x hx => (hks x).2 (hI.1 x (List.mem_filter.1 hx).1)
  refine yR ?_
  refine yM rfl rfl ?_
  try dsimp only [St.put]
  refine ba rfl (bk rfl rfl rfl) ?_
  try dsimp only [St.put]
  refine ae rfl (cq rfl rfl rfl (by decide) (by decide) zR (by decide) ?_)
  try dsimp only [St.put]
  refine ae rfl (re y rfl rfl zG rfl rfl rfl rfl zA ?_ zA)
  refine yA rfl rfl ?_
  refine yN ?_
  dsimp only [St.put]
  first
   | (rw [show (done.filter (fun a => (ez e.ss f.ss a).isSome)) ++ [y] = (((done ++ [y])).filter (fun a => (ez e.ss f.ss a).isSome)) by rw [List.filter_append]; simp [hov]]
      simp only [show (done.filter (fun a => (ez e.ss f.ss a).isSome)).length + 1 = (((done ++ [y])).filter (fun a => (ez e.ss f.ss a).isSome)).length by rw [List.filter_append]; simp [hov]]
      exact ⟨(done ++ [y], wi + 1, wv), lw hyk hyd, ⟨hIn y hyk, hIu y hyd⟩, ⟨⟨rfl, rfl⟩, zF, zB, zN, zX⟩⟩)
   | (rw [show (done.filter (fun a => (ez e.ss f.ss a).isSome)) = (((done ++ [y])).filter (fun a => (ez e.ss f.ss a).isSome)) by rw [List.filter_append]; simp [hov]]
      exact ⟨(done ++ [y], wi + 1, wv), lw hyk hyd, ⟨hIn y hyk, hIu y hyd⟩, ⟨⟨rfl, rfl⟩, zF, zB, zN, zX⟩⟩)
 have hov : (ez e.ss f.ss y).isSome = false := hov0.trans hc
 refine aq ?_
 first
  | (rw [show (done.filter (fun a => (ez e.ss f.ss a).isSome)) ++ [y] = (((done ++ [y])).filter (fun a => (ez e.ss f.ss a).isSome)) by rw [List.filter_append]; simp [hov]]
     simp only [show (done.filter (fun a => (ez e.ss f.ss a).isSome)).length + 1 = (((done ++ [y])).filter (fun a => (ez e.ss f.ss a).isSome)).length by rw [List.filter_append]; simp [hov]]
     exact ⟨(done ++ [y], wi + 1, wv), lw hyk hyd, ⟨hIn y hyk, hIu y hyd⟩, ⟨⟨rfl, rfl⟩, zF, zB, zN, zX⟩⟩)
  | (rw [show (done.filter (fun a => (ez e.ss f.ss a).isSome)) = (((done ++ [y])).filter (fun a => (ez e.ss f.ss a).isSome)) by rw [List.filter_append]; simp [hov]]
     exact ⟨(done ++ [y], wi + 1, wv), lw hyk hyd, ⟨hIn y hyk, hIu y hyd⟩, ⟨⟨rfl, rfl⟩, zF, zB, zN, zX⟩⟩)
theorem upi (t : af) (e f : aw) (hl : e.ss.length ≤ 20) (hlf : f.ss.length ≤ 20) :
  c8 cr Tryz.prog 14 [b7 t, val e, val f] (.tup [lst (nw t e f), .v (.int .i64 (ge t e f))]) := by
 by_cases h : ge t e f = 0
 ·exact upj t e f hl hlf h
 exact upk t e f hl hlf h
end Go.Proofs.YtjjklfgpffgnfabGreatDoor
