/-
 Contracts of the program's functions of charts: lines that lead from one edition to another one.
-/
import Derived.Test.YtjjklfgpffgnfaaGreatDoorEeTurn
import Derived.Test.YtjjklfgpffgnfaaGreatDoorEhOrd
namespace Go.Proofs.YtjjklfgpffgnfaaGreatDoor
set_option maxRecDepth 10000
open Go.RowKit Go.AB
open Go.AB.Enc (cells)
open Go.PB (bv ai PlaceD cy c6 cz)
instance : Ty Tryz.prog (srt_line_ren.t 24) true (Enc.n L2) := inferInstanceAs (Ty Tryz.prog 115 true 2)
theorem ulm (t : ai) (e f : av) (hl : e.ss.length ≤ 20) (hlf : f.ss.length ≤ 20) (h : gh t e f ≠ 0) :
  da cv Tryz.prog 25 [b8 t, val e, val f] (.tup [lst (nl t e f), .v (.int .i64 (gh t e f))]) := by
 refine fy Tryz.func25 rfl (fun m => .tup (ar (bh _ _) (ar .v bl))) fun G nx hF => ?_
 simp only [Tryz.ntmps25, List.length_cons, List.length_nil, Nat.reduceAdd, Nat.reduceSub]
 refine bi fun hlt => ?_
 dsimp only at hlt
 have hnx := hlt 0 _ hF
 have hV : nl t e f = [] := by simp [nl, h]
 rw [hV]
 refine yS fun _ K1 => ?_
 refine yR ?_
 try dsimp only [St.put]
 refine yB rfl rfl rfl ?_
 try dsimp only [St.put]
 refine yB rfl rfl rfl ?_
 try dsimp only [St.put]
 refine yB rfl rfl rfl ?_
 refine yA rfl rfl ?_
 refine yA rfl rfl ?_
 refine yN ?_
 dsimp only [St.put]
 refine K1 _ ?_
 refine yS fun _ K2 => ?_
 refine yR ?_
 try dsimp only [St.put]
 refine af rfl (aq rfl rfl rfl) ?_
 refine yE rfl rfl rfl ?_
 refine yE rfl rfl rfl ?_
 try dsimp only [St.put]
 refine ae rfl (c9 rfl rfl rfl (by decide) (by decide) zR (by decide) ?_)
 try dsimp only [St.put]
 refine ae rfl (eb rfl rfl rfl (yo t e f hl hlf h) zG ?_)
 refine yM rfl rfl ?_
 refine yX rfl rfl rfl rfl ?_
 refine yX rfl rfl rfl rfl ?_
 refine yA rfl rfl ?_
 refine yA rfl rfl ?_
 refine yN ?_
 dsimp only [St.put]
 refine K2 _ ?_
 refine yS fun _ K3 => ?_
 refine yS fun _ K4 => ?_
 refine yR ?_
 refine yM rfl rfl ?_
 refine aa rfl (bt (c := true) (dt rfl rfl rfl) (kh h)) ?_
 refine yN ?_
 dsimp only [St.put]
 refine K4 _ ?_
 refine al rfl (fun _ => ?_) (fun h => by cases h)
 refine yS fun _ K5 => ?_
 refine yR ?_
 refine yM rfl rfl ?_
 refine yA rfl rfl ?_
 refine yA rfl rfl ?_
 refine yN ?_
 dsimp only [St.put]
 refine K5 _ ?_
 refine am ?_
 refine dv rfl (cj (by constructor)) (cj (by constructor)) zN zS ?_ ?_
 ·exact zW
 exact zW
set_option maxHeartbeats 4000000 in
theorem ull (t : ai) (e f : av) (hl : e.ss.length ≤ 20) (hlf : f.ss.length ≤ 20) (hb : gh t e f = 0) :
  da cv Tryz.prog 25 [b8 t, val e, val f] (.tup [lst (nl t e f), .v (.int .i64 (gh t e f))]) := by
 refine fy Tryz.func25 rfl (fun m => .tup (ar (bh _ _) (ar .v bl))) fun G nx hF => ?_
 simp only [Tryz.ntmps25, List.length_cons, List.length_nil, Nat.reduceAdd, Nat.reduceSub]
 refine bi fun hlt => ?_
 dsimp only at hlt
 have hnx := hlt 0 _ hF
 obtain ⟨h, hh⟩ := xk hb
 have hS := mn h
 have hSf := mn hh
 have hok := hS.ok
 have hokf := hSf.ok
 refine yS fun _ K1 => ?_
 refine yR ?_
 try dsimp only [St.put]
 refine yB rfl rfl rfl ?_
 try dsimp only [St.put]
 refine yB rfl rfl rfl ?_
 try dsimp only [St.put]
 refine yB rfl rfl rfl ?_
 refine yA rfl rfl ?_
 refine yA rfl rfl ?_
 refine yN ?_
 dsimp only [St.put]
 refine K1 _ ?_
 refine yS fun _ K2 => ?_
 refine yR ?_
 try dsimp only [St.put]
 refine af rfl (aq rfl rfl rfl) ?_
 refine yE rfl rfl rfl ?_
 refine yE rfl rfl rfl ?_
 try dsimp only [St.put]
 refine ae rfl (c9 rfl rfl rfl (by decide) (by decide) zR (by decide) ?_)
 try dsimp only [St.put]
 refine ae rfl (i0 rfl rfl rfl (ut t e f hl hlf h hh _ _ zG) (fun yy => ?_))
 refine yM rfl rfl ?_
 refine yX rfl rfl rfl rfl ?_
 refine yX rfl rfl rfl rfl ?_
 refine yA rfl rfl ?_
 refine yA rfl rfl ?_
 refine yN ?_
 dsimp only [St.put]
 refine K2 _ ?_
 refine yS fun _ K3 => ?_
 refine yS fun _ K4 => ?_
 refine yR ?_
 refine yM rfl rfl ?_
 refine aa rfl (bt (c := false) (dt rfl rfl rfl) (by rfl)) ?_
 refine yN ?_
 dsimp only [St.put]
 refine K4 _ ?_
 refine al rfl (fun h => by cases h) (fun _ => ?_)
 refine aw ?_
 refine K3 _ ?_
 refine yS fun _ K5 => ?_
 refine yR ?_
 refine yA rfl rfl ?_
 refine yN ?_
 dsimp only [St.put]
 refine K5 _ ?_
 refine uc6 10 115 2 rfl (by decide) ?_
 dsimp only
 refine yS fun _ K6 => ?_
 refine yS fun _ K7 => ?_
 refine yR ?_
 refine yM rfl rfl ?_
 try dsimp only [St.put]
 refine aa rfl (b7 (k := 0) rfl rfl rfl (by first | rfl | omega) rfl rfl) ?_
 refine yL rfl rfl rfl ?_
 refine aa rfl (iq rfl rfl) ?_
 refine yF rfl rfl rfl rfl ?_
 refine yL rfl rfl rfl ?_
 try dsimp only [St.put]
 refine ae rfl (w7 rfl rfl zG fun r β cl ks hnd hks0 hinj => ?_)
 refine yN ?_
 dsimp only [St.put]
 have hks : ∀ x, cn e.ss x ≠ none ↔ x ∈ ks := fun x => (not_congr capp_none).symm.trans (hks0 x)
 refine K7 _ ?_
 refine bn ?_
 refine eg 39 ?_
 simp only [dj, bq, Nat.reduceAdd, List.getD_cons_zero, List.getD_cons_succ, List.getD_nil, dw, Nat.reduceBEq, cond_true, cond_false]
 refine fg ((ak (ak (ak (ak (ak (ak (ak G (nx + 1 + 1 + 1 + 1) (bo Tryz.prog 115 yy.1.1 (az (ax e.ss)))) (nx + 1 + 1 + 1 + 1 + 1) (ko Tryz.prog 115 yy.1.2 (az (cn e.ss)) β cl)) (nx + 1 + 1 + 1 + 1 + 1 + 1 + 1) (bo Tryz.prog 115 yy.2.1 (az (ax f.ss)))) (nx + 1 + 1 + 1 + 1 + 1 + 1 + 1 + 1) (bo Tryz.prog 115 yy.2.2 (az (cn f.ss)))) ((nx + 1 + 1 + 1 + 1 + 1 + 1 + 1 + 1 + 1)) ((.arr ((((([] : List L2)).filter (fun a => (fl e.ss f.ss a).isSome)))).length 0 115 2 ((((([] : List L2)).filter (fun a => (fl e.ss f.ss a).isSome)))).length (co ((((([] : List L2)).filter (fun a => (fl e.ss f.ss a).isSome)))))))) ((nx + 1 + 1 + 1 + 1 + 1 + 1 + 1 + 1 + 1 + 1)) (.raw 0 (.mapIter (some r) cl (i2 β (([] : List L2))) cl))) ((nx + 1 + 1 + 1 + 1 + 1 + 1 + 1 + 1 + 1 + 1 + 1)) (.fact (.map (some r)) (.map ((nx + 1 + 1 + 1 + 1 + 1)))))) zX ?_
 dsimp only
 refine fu (X := List L2 × Nat × Nat) (fun x => (∀ y ∈ x.1, y ∈ ks) ∧ x.1.Nodup) (fun x => p4 ks x.1) (fun x => [(10, .own ((nx + 1 + 1 + 1 + 1 + 1 + 1 + 1 + 1 + 1)) ((x.1.filter (fun a => (fl e.ss f.ss a).isSome))).length ((x.1.filter (fun a => (fl e.ss f.ss a).isSome))).length), (11, .any), (12, .any), (13, .any), (14, .any)]) (fun x G' => (ak (ak (ak (ak (ak (ak (ak G (nx + 1 + 1 + 1 + 1) (bo Tryz.prog 115 yy.1.1 (az (ax e.ss)))) (nx + 1 + 1 + 1 + 1 + 1) (ko Tryz.prog 115 yy.1.2 (az (cn e.ss)) β cl)) (nx + 1 + 1 + 1 + 1 + 1 + 1 + 1) (bo Tryz.prog 115 yy.2.1 (az (ax f.ss)))) (nx + 1 + 1 + 1 + 1 + 1 + 1 + 1 + 1) (bo Tryz.prog 115 yy.2.2 (az (cn f.ss)))) ((nx + 1 + 1 + 1 + 1 + 1 + 1 + 1 + 1 + 1)) ((.arr (x.1.filter (fun a => (fl e.ss f.ss a).isSome)).length x.2.2 115 2 (x.1.filter (fun a => (fl e.ss f.ss a).isSome)).length (co (x.1.filter (fun a => (fl e.ss f.ss a).isSome)))))) ((nx + 1 + 1 + 1 + 1 + 1 + 1 + 1 + 1 + 1 + 1)) (.raw x.2.1 (.mapIter (some r) cl (i2 β x.1) cl))) ((nx + 1 + 1 + 1 + 1 + 1 + 1 + 1 + 1 + 1 + 1 + 1)) (.fact (.map (some r)) (.map ((nx + 1 + 1 + 1 + 1 + 1)))))) ([], 0, 0) rfl ?_ ?_ ?_ ?_ ?_ ?_
 ·exact ⟨fun y hy => by simp at hy, List.nodup_nil⟩
 ·exact zF
 ·exact zX
 ·rintro ⟨done, wi, wv⟩ hI
  exact (by (try dsimp only); repeat' (first | exact trivial | refine ⟨?_, ?_⟩ | exact .v | exact .any | refine .elem ?_ | exact bh _ _ | exact e9 _ _ | exact dq _ _ | exact ff _ (by (try dsimp only); omega) | exact .box (by (try dsimp only); omega) | exact ed | exact bl | exact p7 (f9 _ _) | exact gg (f9 _ _) | refine fa ?_ ?_ | exact .arr (by (try dsimp only); omega) | exact .own (by (try dsimp only); omega) | exact .map (by (try dsimp only); omega) | exact ez _ | refine ar ?_ ?_ | exact bh _ _))
 ·rintro ⟨done, wi, wv⟩ hI
  exact (by (repeat' (refine gt ?_ (by (try dsimp only); omega) ?_)); all_goals (first | exact ie zS | (repeat' (first | exact trivial | refine ⟨?_, ?_⟩ | exact .v | exact .any | refine .elem ?_ | exact bh _ _ | exact e9 _ _ | exact dq _ _ | exact ff _ (by (try dsimp only); omega) | exact .box (by (try dsimp only); omega) | exact ed | exact bl | exact p7 (f9 _ _) | exact gg (f9 _ _) | refine fa ?_ ?_ | exact .arr (by (try dsimp only); omega) | exact .own (by (try dsimp only); omega) | exact .map (by (try dsimp only); omega) | exact ez _ | refine ar ?_ ?_ | exact bh _ _))))
 rintro ⟨done, wi, wv⟩ hI
 dsimp only at hI ⊢
 refine yS fun _ K8 => ?_
 refine yR ?_
 try dsimp only [St.put]
 refine ae rfl (w8 (done := done) rfl rfl zG zG zG (hks0) (hinj) (hI.1) (fun hend => ?_) (fun y c hym hyk hyd => ?_))
 ·have hys0 : ∀ x, x ∈ (done.filter (fun a => (fl e.ss f.ss a).isSome)) ↔ x ∈ ks ∧ (fl e.ss f.ss x).isSome = true := fun x => by
   rw [List.mem_filter]
   exact ⟨fun ⟨h1, h2⟩ => ⟨hI.1 x h1, h2⟩, fun ⟨h1, h2⟩ => ⟨hend x h1, h2⟩⟩
  have hnd : (done.filter (fun a => (fl e.ss f.ss a).isSome)).Nodup := List.Pairwise.filter _ hI.2
  have hbl := uc0 hS hnd fun x hx => (hks x).2 ((hys0 x).1 hx).1
  have hxb : ∀ x ∈ (done.filter (fun a => (fl e.ss f.ss a).isSome)), LBd x := fun x hx => by
   obtain ⟨p, hp⟩ := Option.ne_none_iff_exists'.1 ((hks x).2 ((hys0 x).1 hx).1)
   have := l3 hok ((kd hS.no).1 hp)
   exact ⟨by omega, by omega, by omega, by omega⟩
  refine yX rfl rfl rfl rfl ?_
  refine yN ?_
  dsimp only [St.put]
  refine K8 _ ?_
  refine yS fun _ K9 => ?_
  refine al rfl (fun h => by cases h) (fun _ => ?_)
  refine ey ?_
  refine K6 _ ?_
  refine yS fun _ K10 => ?_
  refine xm (n := (nx + 1 + 1 + 1 + 1 + 1)) zG ?_
  dsimp only
  refine yR ?_
  refine yM rfl rfl ?_
  try dsimp only [St.put]
  refine ae rfl (ub3 uey LBd pa rfl rfl rfl rfl zG rfl rfl rfl (fun y hy => hy.plain) hxb (by omega) (fun a b _ _ => ukg a b _ _) ukn (fun ys hperm hsort => ?_))
  refine yN ?_
  dsimp only [St.put]
  have hlen := hperm.length_eq
  have hyn : ys.Nodup := hperm.nodup_iff.2 hnd
  have hcr := ukc (fs := f.ss) hS hks (fun x => hperm.mem_iff.trans (hys0 x)) (ufb hsort hyn)
  have hcl : nl t e f = gq (ys.map (gy e.ss f.ss)) := by simp [nl, hb, ucd hcr]
  have hLb := ukf hok hokf hcr
  have hmem : ∀ a ∈ ys, ∃ p u, cn e.ss a = some p ∧ ax f.ss p = some u ∧ gy e.ss f.ss a = jb a u := fun a ha => by
   obtain ⟨u, hu⟩ := Option.isSome_iff_exists.1 ((hys0 a).1 (hperm.mem_iff.1 ha)).2
   obtain ⟨p, hp, hpu⟩ := overO_some.1 hu
   exact ⟨p, u, hp, hpu, by simp [gy, hu]⟩
  rw [← hlen] at hbl ⊢
  refine K10 _ ?_
  refine yS fun _ K11 => ?_
  refine yR ?_
  refine yA rfl rfl ?_
  refine yN ?_
  dsimp only [St.put]
  refine K11 _ ?_
  refine uc6 15 60 5 rfl (by decide) ?_
  dsimp only
  refine yS fun _ K12 => ?_
  refine yR ?_
  refine aa rfl (ir rfl rfl) ?_
  try dsimp only [St.put]
  refine ae rfl (bp rfl ?_)
  try dsimp only [St.put]
  refine ae rfl (ay rfl rfl rfl zG rfl rfl (by rfl) ?_)
  refine yN ?_
  dsimp only [St.put]
  refine K12 _ ?_
  refine yS fun _ K13 => ?_
  refine yS fun _ K14 => ?_
  refine yR ?_
  refine yM rfl rfl ?_
  refine aa rfl (oq rfl rfl) ?_
  refine yM rfl rfl ?_
  refine yN ?_
  dsimp only [St.put]
  refine K14 _ ?_
  refine bn ?_
  refine eg 66 ?_
  simp only [dj, bq, Nat.reduceAdd, List.getD_cons_zero, List.getD_cons_succ, List.getD_nil, dw, Nat.reduceBEq, cond_true, cond_false]
  refine fg ((ak (ak (ak (ak (ak (ak (ak G (nx + 1 + 1 + 1 + 1) (bo Tryz.prog 115 yy.1.1 (az (ax e.ss)))) (nx + 1 + 1 + 1 + 1 + 1) (bo Tryz.prog 115 yy.1.2 (az (cn e.ss)))) (nx + 1 + 1 + 1 + 1 + 1 + 1 + 1) (bo Tryz.prog 115 yy.2.1 (az (ax f.ss)))) (nx + 1 + 1 + 1 + 1 + 1 + 1 + 1 + 1) (bo Tryz.prog 115 yy.2.2 (az (cn f.ss)))) ((nx + 1 + 1 + 1 + 1 + 1 + 1 + 1 + 1 + 1)) ((.arr ys.length (((wv + 1))) 115 2 ys.length (co ys)))) ((nx + 1 + 1 + 1 + 1 + 1 + 1 + 1 + 1 + 1 + 1 + 1 + 1)) (.arr (([] : List ec)).length 0 60 5 (([] : List ec)).length (co (([] : List ec))))) ((nx + 1 + 1 + 1 + 1 + 1 + 1 + 1 + 1 + 1 + 1 + 1 + 1 + 1)) (.box 1 (cells ((⟨(0, 0), (0, 0)⟩ : TwoL)))))) zX ?_
  dsimp only
  refine fu (X := Nat × Nat × Nat × TwoL) (fun x => x.1 ≤ ys.length ∧ sr (gq ((ys.map (gy e.ss f.ss)).take x.1)) x.2.2.2) (fun x => ys.length - x.1) (fun x => [(15, .own ((nx + 1 + 1 + 1 + 1 + 1 + 1 + 1 + 1 + 1 + 1 + 1 + 1)) (gq ((ys.map (gy e.ss f.ss)).take x.1)).length (gq ((ys.map (gy e.ss f.ss)).take x.1)).length), (18, .any), (19, .any), (20, .any), (65, .v (.int .i64 (x.1 : Int)))]) (fun x G' => (ak (ak (ak (ak (ak (ak (ak G (nx + 1 + 1 + 1 + 1) (bo Tryz.prog 115 yy.1.1 (az (ax e.ss)))) (nx + 1 + 1 + 1 + 1 + 1) (bo Tryz.prog 115 yy.1.2 (az (cn e.ss)))) (nx + 1 + 1 + 1 + 1 + 1 + 1 + 1) (bo Tryz.prog 115 yy.2.1 (az (ax f.ss)))) (nx + 1 + 1 + 1 + 1 + 1 + 1 + 1 + 1) (bo Tryz.prog 115 yy.2.2 (az (cn f.ss)))) ((nx + 1 + 1 + 1 + 1 + 1 + 1 + 1 + 1 + 1)) ((.arr ys.length (((wv + 1))) 115 2 ys.length (co ys)))) ((nx + 1 + 1 + 1 + 1 + 1 + 1 + 1 + 1 + 1 + 1 + 1 + 1)) (.arr ((gq ((ys.map (gy e.ss f.ss)).take x.1))).length x.2.1 60 5 ((gq ((ys.map (gy e.ss f.ss)).take x.1))).length (co ((gq ((ys.map (gy e.ss f.ss)).take x.1)))))) ((nx + 1 + 1 + 1 + 1 + 1 + 1 + 1 + 1 + 1 + 1 + 1 + 1 + 1)) (.box x.2.2.1 (cells x.2.2.2)))) (0, 0, 1, ⟨(0, 0), (0, 0)⟩) rfl ?_ ?_ ?_ ?_ ?_ ?_
  ·exact ⟨Nat.zero_le _, .inl rfl⟩
  ·exact zF
  ·exact zX
  ·rintro ⟨k, wm, wb, nxt⟩ hI
   exact (by (try dsimp only); repeat' (first | exact trivial | refine ⟨?_, ?_⟩ | exact .v | exact .any | refine .elem ?_ | exact bh _ _ | exact e9 _ _ | exact dq _ _ | exact ff _ (by (try dsimp only); omega) | exact .box (by (try dsimp only); omega) | exact ed | exact bl | exact gg (f9 _ _) | refine fa ?_ ?_ | exact .arr (by (try dsimp only); omega) | exact .own (by (try dsimp only); omega) | exact .map (by (try dsimp only); omega) | exact ez _ | refine ar ?_ ?_ | exact bh _ _))
  ·rintro ⟨k, wm, wb, nxt⟩ hI
   exact (by (repeat' (refine gt ?_ (by (try dsimp only); omega) ?_)); all_goals (first | exact ie zS | (repeat' (first | exact trivial | refine ⟨?_, ?_⟩ | exact .v | exact .any | refine .elem ?_ | exact bh _ _ | exact e9 _ _ | exact dq _ _ | exact ff _ (by (try dsimp only); omega) | exact .box (by (try dsimp only); omega) | exact ed | exact bl | exact gg (f9 _ _) | refine fa ?_ ?_ | exact .arr (by (try dsimp only); omega) | exact .own (by (try dsimp only); omega) | exact .map (by (try dsimp only); omega) | exact ez _ | refine ar ?_ ?_ | exact bh _ _))))
  rintro ⟨k, wm, wb, nxt⟩ hK
  dsimp only at hK ⊢
  obtain ⟨out, hout⟩ : ∃ out, gq ((ys.map (gy e.ss f.ss)).take k) = out := ⟨_, rfl⟩
  rw [hout] at hK ⊢
  have hol : out.length ≤ 60 := by
   have := uhb ((ys.map (gy e.ss f.ss)).take k)
   rw [hout, List.length_take, List.length_map] at this
   omega
  have hob : ∀ s ∈ out, PBd (((ys.map (gy e.ss f.ss)).take k).length + 1) s := hout ▸ uhc fun r hr => hLb r (List.mem_of_mem_take hr)
  rw [List.length_take] at hob
  refine yS fun _ K15 => ?_
  refine yR ?_
  refine aa rfl (cr rfl rfl rfl) ?_
  refine yN ?_
  dsimp only [St.put]
  refine K15 _ ?_
  refine yS fun _ K16 => ?_
  refine al rfl (fun hc => ?_) (fun hc => ?_)
  ·replace hc := of_decide_eq_true hc
   obtain ⟨a, ha⟩ : ∃ x, ys[k]? = some x := fj (by omega)
   obtain ⟨p, u, hp, hpu, hov⟩ := hmem a (gr ha)
   have hax := l3 hok ((kd hS.no).1 hp)
   have hux := l3 hokf hpu
   refine aw ?_
   refine K16 _ ?_
   refine yS fun _ K17 => ?_
   refine bn ?_
   refine yS fun _ K18 => ?_
   refine yR ?_
   try dsimp only [St.put]
   refine aa rfl (ra (k := k) rfl rfl zG rfl (by first | exact rfl | omega) (by first | omega | (simp; omega))) ?_
   try dsimp only [St.put]
   refine af rfl (ei (α := L2) (k := k) (y := a) rfl rfl zG trivial rfl ha rfl (by decide)) ?_
   try dsimp only [St.put]
   refine ae rfl (bp rfl ?_)
   try dsimp only [St.put]
   refine ae rfl (ay rfl rfl rfl zG rfl rfl (by rfl) ?_)
   refine yN ?_
   dsimp only [St.put]
   refine K18 _ ?_
   refine dg (i := 18) rfl zG (by first | exact List.cons_ne_nil _ _ | (simp; done) | (simp [putAt]; done)) ?_
   dsimp only
   refine yS fun _ K19 => ?_
   refine gj [(0, none), (1, none), (2, none), (3, none), (4, none), (5, none), (6, none), (7, none), (8, none), (9, none), (10, none), (11, none), (12, none), (13, none), (14, none), (15, none), (16, none)] (fun i => [16].contains i) (fun i => [15, 16].contains i) (fun i => [0, 1, 3, 4, 6, 7, 9, 10].contains i) [(nx + 1 + 1 + 1 + 1 + 1), (nx + 1 + 1 + 1 + 1 + 1 + 1 + 1)] (by kernel_rfl) (by kernel_rfl) ?_
   refine xM rfl rfl rfl rfl rfl ?_
   try dsimp only [St.put]
   refine ah rfl rfl rfl rfl (b7 (k := 1) rfl rfl rfl (by first | rfl | omega) rfl rfl) ?_
   try dsimp only [St.put]
   refine aj rfl rfl rfl rfl (a7 rfl rfl) ?_
   refine ah rfl rfl rfl rfl (iq rfl rfl) ?_
   refine ah rfl rfl rfl rfl (b9 rfl rfl rfl) ?_
   try dsimp only [St.put]
   refine aj rfl rfl rfl rfl (a7 rfl rfl) ?_
   refine xM rfl rfl rfl rfl rfl ?_
   try dsimp only [St.put]
   refine ah rfl rfl rfl rfl (b7 (k := 0) rfl rfl rfl (by first | rfl | omega) rfl rfl) ?_
   try dsimp only [St.put]
   refine aj rfl rfl rfl rfl (a7 rfl rfl) ?_
   refine ah rfl rfl rfl rfl (iq rfl rfl) ?_
   refine ah rfl rfl rfl rfl (b9 rfl rfl rfl) ?_
   try dsimp only [St.put]
   refine aj rfl rfl rfl rfl (a7 rfl rfl) ?_
   try dsimp only [St.put]
   refine aj rfl rfl rfl rfl (aq rfl rfl (Enc.len _)) ?_
   try dsimp only [St.put]
   refine aj rfl rfl rfl rfl (uv a rfl rfl zG (by simp) rfl (ro hp)) ?_
   try dsimp only [St.put]
   refine aj rfl rfl rfl rfl (uv p rfl rfl zG (by simp) rfl (ro hpu)) ?_
   refine il ?_
   try dsimp only [St.put]
   refine jl rfl rfl rfl (bp rfl ⟨zD, ?_⟩)
   try dsimp only [St.put]
   refine gn rfl rfl rfl rfl (ay rfl rfl rfl zG rfl rfl (by rfl) ?_)
   refine ij ?_
   dsimp only [St.put]
   refine K19 _ ?_
   refine dg (i := 19) rfl zG (by first | exact List.cons_ne_nil _ _ | (simp; done) | (simp [putAt]; done)) ?_
   dsimp only
   refine yS fun _ K20 => ?_
   refine yS fun _ K21 => ?_
   refine yR ?_
   refine yE rfl rfl rfl ?_
   try dsimp only [St.put]
   refine af rfl (aq rfl rfl rfl) ?_
   refine aa rfl (ir rfl rfl) ?_
   try dsimp only [St.put]
   refine ae rfl (bp rfl ?_)
   try dsimp only [St.put]
   refine ae rfl (ay rfl rfl rfl zG rfl rfl (by rfl) ?_)
   refine yN ?_
   dsimp only [St.put]
   refine K21 _ ?_
   refine dg (i := 20) rfl zG (by first | exact List.cons_ne_nil _ _ | (simp; done) | (simp [putAt]; done)) ?_
   dsimp only
   refine yS fun _ K22 => ?_
   refine yR ?_
   refine yM rfl rfl ?_
   refine aa rfl (oq rfl rfl) ?_
   refine aa rfl (gz rfl rfl rfl) ?_
   refine e7 (fun hs => ?_) (fun hs => ?_)
   ·have h2 := of_decide_eq_true hs
    obtain ⟨s, hz⟩ : ∃ x, out[out.length - 1]? = some x := fj (by omega)
    obtain ⟨b1, b2, b3, b4, b5⟩ := hob s (gr hz)
    refine yM rfl rfl ?_
    try dsimp only [St.put]
    refine af rfl (aq rfl rfl rfl) ?_
    try dsimp only [St.put]
    refine af rfl (dc rfl rfl zG trivial (by rfl)) ?_
    refine aa rfl (nz (x := TwoL.mk a u) (y := nxt) rfl rfl rfl) ?_
    refine aa rfl (bg rfl rfl (by constructor)) ?_
    refine yN ?_
    dsimp only [St.put]
    refine K22 _ ?_
    refine al rfl (fun hc => ?_) (fun hc => ?_)
    ·have ho := yn hz ((vg hK.2 hz).symm.trans hc)
     refine yR ?_
     refine yM rfl rfl ?_
     refine yM rfl rfl ?_
     refine aa rfl (oq rfl rfl) ?_
     refine aa rfl (ip rfl rfl rfl (by omega)) ?_
     try dsimp only [St.put]
     refine aa rfl (ra (k := (out.length - 1)) rfl rfl zG rfl (by first | exact rfl | omega) (by first | omega | (simp; omega))) ?_
     refine aa rfl (ge rfl rfl) ?_
     try dsimp only [St.put]
     refine af rfl (bx rfl rfl zG trivial (em (by assumption) rfl)) ?_
     refine aa rfl (bw rfl rfl rfl (by omega)) ?_
     try dsimp only [St.put]
     refine aa rfl (ra (k := (out.length - 1)) rfl rfl zG rfl (by first | exact rfl | omega) (by first | omega | (simp; omega))) ?_
     refine aa rfl (ge rfl rfl) ?_
     try dsimp only [St.put]
     refine ae rfl (ujx (k := out.length - 1) (j := 4) (z := s) (z' := { s with n := s.n + 1 }) rfl rfl rfl zG rfl rfl hz rfl (by decide) rfl ?_)
     refine yN ?_
     dsimp only [St.put]
     refine K20 _ ?_
     refine yR ?_
     try dsimp only [St.put]
     refine aa rfl (fb (k := 0) rfl rfl rfl (by first | exact rfl | omega) (by first | decide | omega) rfl) ?_
     refine yL rfl rfl rfl ?_
     try dsimp only [St.put]
     refine aa rfl (fb (k := 1) rfl rfl rfl (by first | exact rfl | omega) (by first | decide | omega) rfl) ?_
     refine yL rfl rfl rfl ?_
     refine aa rfl (bw rfl rfl rfl (by omega)) ?_
     refine aa rfl (ir rfl rfl) ?_
     try dsimp only [St.put]
     refine aa rfl (fb (k := 0) rfl rfl rfl (by first | exact rfl | omega) (by first | decide | omega) rfl) ?_
     refine yL rfl rfl rfl ?_
     try dsimp only [St.put]
     refine aa rfl (fb (k := 1) rfl rfl rfl (by first | exact rfl | omega) (by first | decide | omega) rfl) ?_
     refine yL rfl rfl rfl ?_
     refine aa rfl (bw rfl rfl rfl (by omega)) ?_
     refine aa rfl (ir rfl rfl) ?_
     refine aa rfl (ir rfl rfl) ?_
     try dsimp only [St.put]
     refine ae rfl (ay rfl rfl rfl zG rfl rfl (by rfl) ?_)
     refine yN ?_
     dsimp only [St.put]
     refine K17 _ ?_
     refine yR ?_
     refine aa rfl (bw rfl rfl rfl (by omega)) ?_
     refine yM rfl rfl ?_
     refine yN ?_
     dsimp only [St.put]
     have e2 := sy (cm (f := gy e.ss f.ss) ha)
     rw [hout, hov] at e2
     have hnq := vf a u hK.2
     first
     | (rw [hm] at e2 hnq
        have e3 : out.length + 1 = (gq ((ys.map (gy e.ss f.ss)).take (k + 1))).length := by rw [e2]; simp
        rw [← e2] at hnq ⊢
        rw [e3]
        exact ⟨(k + 1, wm, wb + 1, ⟨(a.1, a.2 + 1), (u.1, u.2 + 1)⟩), by (dsimp only; omega), ⟨by (dsimp only; omega), hnq⟩, ⟨⟨rfl, rfl⟩, zF, zB, zN, zX⟩⟩)
     | (rw [ho] at e2 hnq
        have e3 : out.length = (gq ((ys.map (gy e.ss f.ss)).take (k + 1))).length := by rw [e2]; simp
        rw [← e2] at hnq ⊢
        rw [e3]
        exact ⟨(k + 1, wm + 1, wb + 1, ⟨(a.1, a.2 + 1), (u.1, u.2 + 1)⟩), by (dsimp only; omega), ⟨by (dsimp only; omega), hnq⟩, ⟨⟨rfl, rfl⟩, zF, zB, zN, zX⟩⟩)
    try have hm := um hz ((vg hK.2 hz).symm.trans hc)
    refine yR ?_
    refine yM rfl rfl ?_
    try dsimp only [St.put]
    refine aa rfl (fb (k := 0) rfl rfl rfl (by first | exact rfl | omega) (by first | decide | omega) rfl) ?_
    refine yL rfl rfl rfl ?_
    try dsimp only [St.put]
    refine aa rfl (fb (k := 1) rfl rfl rfl (by first | exact rfl | omega) (by first | decide | omega) rfl) ?_
    refine yL rfl rfl rfl ?_
    try dsimp only [St.put]
    refine aa rfl (fb (k := 0) rfl rfl rfl (by first | exact rfl | omega) (by first | decide | omega) rfl) ?_
    refine yL rfl rfl rfl ?_
    try dsimp only [St.put]
    refine aa rfl (fb (k := 1) rfl rfl rfl (by first | exact rfl | omega) (by first | decide | omega) rfl) ?_
    refine yL rfl rfl rfl ?_
    refine aa rfl (du rfl rfl) ?_
    try dsimp only [St.put]
    refine ae rfl (c9 rfl rfl rfl (by decide) (by decide) zR (by decide) ?_)
    try dsimp only [St.put]
    refine ae rfl (qe (jb a u) rfl rfl zG rfl rfl rfl rfl zA ?_ zA)
    refine yA rfl rfl ?_
    refine yN ?_
    dsimp only [St.put]
    refine K20 _ ?_
    refine yR ?_
    try dsimp only [St.put]
    refine aa rfl (fb (k := 0) rfl rfl rfl (by first | exact rfl | omega) (by first | decide | omega) rfl) ?_
    refine yL rfl rfl rfl ?_
    try dsimp only [St.put]
    refine aa rfl (fb (k := 1) rfl rfl rfl (by first | exact rfl | omega) (by first | decide | omega) rfl) ?_
    refine yL rfl rfl rfl ?_
    refine aa rfl (bw rfl rfl rfl (by omega)) ?_
    refine aa rfl (ir rfl rfl) ?_
    try dsimp only [St.put]
    refine aa rfl (fb (k := 0) rfl rfl rfl (by first | exact rfl | omega) (by first | decide | omega) rfl) ?_
    refine yL rfl rfl rfl ?_
    try dsimp only [St.put]
    refine aa rfl (fb (k := 1) rfl rfl rfl (by first | exact rfl | omega) (by first | decide | omega) rfl) ?_
    refine yL rfl rfl rfl ?_
    refine aa rfl (bw rfl rfl rfl (by omega)) ?_
    refine aa rfl (ir rfl rfl) ?_
    refine aa rfl (ir rfl rfl) ?_
    try dsimp only [St.put]
    refine ae rfl (ay rfl rfl rfl zG rfl rfl (by rfl) ?_)
    refine yN ?_
    dsimp only [St.put]
    refine K17 _ ?_
    refine yR ?_
    refine aa rfl (bw rfl rfl rfl (by omega)) ?_
    refine yM rfl rfl ?_
    refine yN ?_
    dsimp only [St.put]
    have e2 := sy (cm (f := gy e.ss f.ss) ha)
    rw [hout, hov] at e2
    have hnq := vf a u hK.2
    first
    | (rw [hm] at e2 hnq
       have e3 : out.length + 1 = (gq ((ys.map (gy e.ss f.ss)).take (k + 1))).length := by rw [e2]; simp
       rw [← e2] at hnq ⊢
       rw [e3]
       exact ⟨(k + 1, wm, wb + 1, ⟨(a.1, a.2 + 1), (u.1, u.2 + 1)⟩), by (dsimp only; omega), ⟨by (dsimp only; omega), hnq⟩, ⟨⟨rfl, rfl⟩, zF, zB, zN, zX⟩⟩)
    | (rw [ho] at e2 hnq
       have e3 : out.length = (gq ((ys.map (gy e.ss f.ss)).take (k + 1))).length := by rw [e2]; simp
       rw [← e2] at hnq ⊢
       rw [e3]
       exact ⟨(k + 1, wm + 1, wb + 1, ⟨(a.1, a.2 + 1), (u.1, u.2 + 1)⟩), by (dsimp only; omega), ⟨by (dsimp only; omega), hnq⟩, ⟨⟨rfl, rfl⟩, zF, zB, zN, zX⟩⟩)
   have h2 := of_decide_eq_false hs
   have hm : jx out (jb a u) = out ++ [jb a u] := ueq (List.eq_nil_of_length_eq_zero (by omega))
   refine yM rfl rfl ?_
   refine yK rfl ?_
   refine yK rfl ?_
   refine yK rfl ?_
   refine aa rfl (cd rfl rfl (by constructor)) ?_
   refine yN ?_
   dsimp only [St.put]
   refine K22 _ ?_
   refine al rfl (fun h => by cases h) (fun _ => ?_)
   try have hm := um hz ((vg hK.2 hz).symm.trans hc)
   refine yR ?_
   refine yM rfl rfl ?_
   try dsimp only [St.put]
   refine aa rfl (fb (k := 0) rfl rfl rfl (by first | exact rfl | omega) (by first | decide | omega) rfl) ?_
   refine yL rfl rfl rfl ?_
   try dsimp only [St.put]
   refine aa rfl (fb (k := 1) rfl rfl rfl (by first | exact rfl | omega) (by first | decide | omega) rfl) ?_
   refine yL rfl rfl rfl ?_
   try dsimp only [St.put]
   refine aa rfl (fb (k := 0) rfl rfl rfl (by first | exact rfl | omega) (by first | decide | omega) rfl) ?_
   refine yL rfl rfl rfl ?_
   try dsimp only [St.put]
   refine aa rfl (fb (k := 1) rfl rfl rfl (by first | exact rfl | omega) (by first | decide | omega) rfl) ?_
   refine yL rfl rfl rfl ?_
   refine aa rfl (du rfl rfl) ?_
   try dsimp only [St.put]
   refine ae rfl (c9 rfl rfl rfl (by decide) (by decide) zR (by decide) ?_)
   try dsimp only [St.put]
   refine ae rfl (qe (jb a u) rfl rfl zG rfl rfl rfl rfl zA ?_ zA)
   refine yA rfl rfl ?_
   refine yN ?_
   dsimp only [St.put]
   refine K20 _ ?_
   refine yR ?_
   try dsimp only [St.put]
   refine aa rfl (fb (k := 0) rfl rfl rfl (by first | exact rfl | omega) (by first | decide | omega) rfl) ?_
   refine yL rfl rfl rfl ?_
   try dsimp only [St.put]
   refine aa rfl (fb (k := 1) rfl rfl rfl (by first | exact rfl | omega) (by first | decide | omega) rfl) ?_
   refine yL rfl rfl rfl ?_
   refine aa rfl (bw rfl rfl rfl (by omega)) ?_
   refine aa rfl (ir rfl rfl) ?_
   try dsimp only [St.put]
   refine aa rfl (fb (k := 0) rfl rfl rfl (by first | exact rfl | omega) (by first | decide | omega) rfl) ?_
   refine yL rfl rfl rfl ?_
   try dsimp only [St.put]
   refine aa rfl (fb (k := 1) rfl rfl rfl (by first | exact rfl | omega) (by first | decide | omega) rfl) ?_
   refine yL rfl rfl rfl ?_
   refine aa rfl (bw rfl rfl rfl (by omega)) ?_
   refine aa rfl (ir rfl rfl) ?_
   refine aa rfl (ir rfl rfl) ?_
   try dsimp only [St.put]
   refine ae rfl (ay rfl rfl rfl zG rfl rfl (by rfl) ?_)
   refine yN ?_
   dsimp only [St.put]
   refine K17 _ ?_
   refine yR ?_
   refine aa rfl (bw rfl rfl rfl (by omega)) ?_
   refine yM rfl rfl ?_
   refine yN ?_
   dsimp only [St.put]
   have e2 := sy (cm (f := gy e.ss f.ss) ha)
   rw [hout, hov] at e2
   have hnq := vf a u hK.2
   first
   | (rw [hm] at e2 hnq
      have e3 : out.length + 1 = (gq ((ys.map (gy e.ss f.ss)).take (k + 1))).length := by rw [e2]; simp
      rw [← e2] at hnq ⊢
      rw [e3]
      exact ⟨(k + 1, wm, wb + 1, ⟨(a.1, a.2 + 1), (u.1, u.2 + 1)⟩), by (dsimp only; omega), ⟨by (dsimp only; omega), hnq⟩, ⟨⟨rfl, rfl⟩, zF, zB, zN, zX⟩⟩)
   | (rw [ho] at e2 hnq
      have e3 : out.length = (gq ((ys.map (gy e.ss f.ss)).take (k + 1))).length := by rw [e2]; simp
      rw [← e2] at hnq ⊢
      rw [e3]
      exact ⟨(k + 1, wm + 1, wb + 1, ⟨(a.1, a.2 + 1), (u.1, u.2 + 1)⟩), by (dsimp only; omega), ⟨by (dsimp only; omega), hnq⟩, ⟨⟨rfl, rfl⟩, zF, zB, zN, zX⟩⟩)
  replace hc := of_decide_eq_false hc
  refine ey ?_
  refine K13 _ ?_
  refine yS fun _ K23 => ?_
  refine yR ?_
  refine yM rfl rfl ?_
  refine yA rfl rfl ?_
  refine yA rfl rfl ?_
  refine yN ?_
  dsimp only [St.put]
  have hf : out = gq (ys.map (gy e.ss f.ss)) := by rw [← hout, im (show (ys.map (gy e.ss f.ss)).length ≤ k by rw [List.length_map]; omega)]
  subst hf
  refine K23 _ ?_
  refine uc5 6 (gq (ys.map (gy e.ss f.ss))) rfl zG rfl rfl rfl ?_
  dsimp only
  refine am ?_
  refine je rfl (by constructor) (by constructor) zN zS ?_ ?_
  ·rw [hcl]
   rfl
  exact vi hb.symm
 obtain ⟨p, hp, rfl⟩ := ulq hym
 have hIn : ∀ z ∈ ks, ∀ x ∈ done ++ [z], x ∈ ks := fun z hz x hx => by
  rcases List.mem_append.1 hx with hx | hx
  ·exact hI.1 x hx
  rw [List.mem_singleton] at hx; exact hx ▸ hz
 have hIu : ∀ z, z ∉ done → (done ++ [z]).Nodup := fun z hz => List.nodup_append.2 ⟨hI.2, by simp, fun a ha b hb => by
  rw [List.mem_singleton] at hb; subst hb; exact fun e => hz (e ▸ ha)⟩
 refine yX rfl rfl rfl rfl ?_
 refine yN ?_
 dsimp only [St.put]
 refine K8 _ ?_
 refine yS fun _ K24 => ?_
 refine al rfl (fun _ => ?_) (fun h => by cases h)
 refine aw ?_
 refine K24 _ ?_
 refine bn ?_
 refine yS fun _ K25 => ?_
 refine yR ?_
 try dsimp only [St.put]
 refine af rfl (uw (fx := (nx + 1 + 1 + 1 + 1 + 1 + 1 + 1 + 1 + 1 + 1 + 1)) (n := (nx + 1 + 1 + 1 + 1 + 1)) rfl rfl zG trivial zG zG trivial (by assumption)) ?_
 refine yX rfl rfl rfl rfl ?_
 refine yX rfl rfl rfl rfl ?_
 try dsimp only [St.put]
 refine ae rfl (bp rfl ?_)
 try dsimp only [St.put]
 refine ae rfl (bp rfl ?_)
 try dsimp only [St.put]
 refine ae rfl (ay rfl rfl rfl zG rfl rfl (by rfl) ?_)
 try dsimp only [St.put]
 refine ae rfl (ay rfl rfl rfl zG rfl rfl (by rfl) ?_)
 refine yN ?_
 dsimp only [St.put]
 refine K25 _ ?_
 refine dg (i := 11) rfl zG (by first | exact List.cons_ne_nil _ _ | (simp; done) | (simp [putAt]; done)) ?_
 refine dg (i := 12) rfl zG (by first | exact List.cons_ne_nil _ _ | (simp; done) | (simp [putAt]; done)) ?_
 dsimp only
 refine yS fun _ K26 => ?_
 obtain ⟨v1, hv1⟩ : ∃ v : L2, (az (ax f.ss) p).getD (iw (.agg #[.int .i64 0, .int .i64 0])) = .agg [.v (.int .i64 v.1), .v (.int .i64 v.2)] := n8 _ _
 obtain ⟨b1, hb1⟩ : ∃ b, (az (ax f.ss) p).isSome = b := ⟨_, rfl⟩
 have hov0 : (fl e.ss f.ss y).isSome = b1 := by rw [← hb1]; simp [fl, hp, az]
 refine gj [(0, none), (1, none), (2, none), (3, none), (4, none), (5, none), (6, none), (7, none), (8, none), (9, none), (10, none), (11, none), (12, none), (13, none)] (fun i => [12].contains i) (fun i => [11, 12].contains i) (fun i => [0, 1, 3, 4, 8, 9, 10, 13].contains i) [(nx + 1 + 1 + 1 + 1 + 1 + 1 + 1)] (by kernel_rfl) (by kernel_rfl) ?_
 refine xM rfl rfl rfl rfl rfl ?_
 try dsimp only [St.put]
 refine ah rfl rfl rfl rfl (b7 (k := 1) rfl rfl rfl (by first | rfl | omega) rfl rfl) ?_
 try dsimp only [St.put]
 refine aj rfl rfl rfl rfl (a7 rfl rfl) ?_
 refine ah rfl rfl rfl rfl (iq rfl rfl) ?_
 refine ah rfl rfl rfl rfl (b9 rfl rfl rfl) ?_
 try dsimp only [St.put]
 refine aj rfl rfl rfl rfl (a7 rfl rfl) ?_
 try dsimp only [St.put]
 refine aj rfl rfl rfl rfl (aq rfl rfl rfl) ?_
 try dsimp only [St.put]
 refine aj rfl rfl rfl rfl (nt p rfl rfl zG (by simp) rfl hv1 hb1) ?_
 refine xM rfl rfl rfl rfl rfl ?_
 refine ah rfl rfl rfl rfl (c7 rfl rfl rfl) ?_
 refine ah rfl rfl rfl rfl (c7 rfl rfl rfl) ?_
 refine il ?_
 try dsimp only [St.put]
 refine jl rfl rfl rfl (bp rfl ⟨zD, ?_⟩)
 try dsimp only [St.put]
 refine gn rfl rfl rfl rfl (ay rfl rfl rfl zG rfl rfl (by rfl) ?_)
 refine jk rfl rfl rfl rfl (cg rfl (by constructor)) ?_
 refine ij ?_
 dsimp only [St.put]
 refine K26 _ ?_
 refine yS fun _ K27 => ?_
 refine yR ?_
 refine yM rfl rfl ?_
 refine yN ?_
 dsimp only [St.put]
 refine K27 _ ?_
 refine al rfl (fun hc => ?_) (fun hc => ?_)
 ·have hov : (fl e.ss f.ss y).isSome = true := hov0.trans hc
  have hbl := uc0 hS (List.Pairwise.filter (fun a => (fl e.ss f.ss a).isSome) hI.2) fun x hx => (hks x).2 (hI.1 x (List.mem_filter.1 hx).1)
  refine yR ?_
  refine yM rfl rfl ?_
  try dsimp only [St.put]
  refine af rfl (aq rfl rfl rfl) ?_
  try dsimp only [St.put]
  refine ae rfl (c9 rfl rfl rfl (by decide) (by decide) zR (by decide) ?_)
  try dsimp only [St.put]
  refine ae rfl (qe y rfl rfl zG rfl rfl rfl rfl zA ?_ zA)
  refine yA rfl rfl ?_
  refine yN ?_
  dsimp only [St.put]
  first
   | (rw [show (done.filter (fun a => (fl e.ss f.ss a).isSome)) ++ [y] = (((done ++ [y])).filter (fun a => (fl e.ss f.ss a).isSome)) by rw [List.filter_append]; simp [hov]]
      simp only [show (done.filter (fun a => (fl e.ss f.ss a).isSome)).length + 1 = (((done ++ [y])).filter (fun a => (fl e.ss f.ss a).isSome)).length by rw [List.filter_append]; simp [hov]]
      exact ⟨(done ++ [y], wi + 1, wv), lj hyk hyd, ⟨hIn y hyk, hIu y hyd⟩, ⟨⟨rfl, rfl⟩, zF, zB, zN, zX⟩⟩)
   | (rw [show (done.filter (fun a => (fl e.ss f.ss a).isSome)) = (((done ++ [y])).filter (fun a => (fl e.ss f.ss a).isSome)) by rw [List.filter_append]; simp [hov]]
      exact ⟨(done ++ [y], wi + 1, wv), lj hyk hyd, ⟨hIn y hyk, hIu y hyd⟩, ⟨⟨rfl, rfl⟩, zF, zB, zN, zX⟩⟩)
 have hov : (fl e.ss f.ss y).isSome = false := hov0.trans hc
 refine aw ?_
 first
  | (rw [show (done.filter (fun a => (fl e.ss f.ss a).isSome)) ++ [y] = (((done ++ [y])).filter (fun a => (fl e.ss f.ss a).isSome)) by rw [List.filter_append]; simp [hov]]
     simp only [show (done.filter (fun a => (fl e.ss f.ss a).isSome)).length + 1 = (((done ++ [y])).filter (fun a => (fl e.ss f.ss a).isSome)).length by rw [List.filter_append]; simp [hov]]
     exact ⟨(done ++ [y], wi + 1, wv), lj hyk hyd, ⟨hIn y hyk, hIu y hyd⟩, ⟨⟨rfl, rfl⟩, zF, zB, zN, zX⟩⟩)
  | (rw [show (done.filter (fun a => (fl e.ss f.ss a).isSome)) = (((done ++ [y])).filter (fun a => (fl e.ss f.ss a).isSome)) by rw [List.filter_append]; simp [hov]]
     exact ⟨(done ++ [y], wi + 1, wv), lj hyk hyd, ⟨hIn y hyk, hIu y hyd⟩, ⟨⟨rfl, rfl⟩, zF, zB, zN, zX⟩⟩)
theorem ulk (t : ai) (e f : av) (hl : e.ss.length ≤ 20) (hlf : f.ss.length ≤ 20) :
  da cv Tryz.prog 25 [b8 t, val e, val f] (.tup [lst (nl t e f), .v (.int .i64 (gh t e f))]) := by
 by_cases h : gh t e f = 0
 ·exact ull t e f hl hlf h
 exact ulm t e f hl hlf h
end Go.Proofs.YtjjklfgpffgnfaaGreatDoor
