/-
 The law ChartClash: its walk.
-/
import Derived.Test.YtjjklfgpffgnfaaGreatDoorGrpH
import Derived.Test.YtjjklfgpffgnfaaGreatDoorCkKeys
namespace Go.AB
open Go Go.RowKit
open Go.PB (bv ai PlaceD cy c6 cz)
section
variable {t : ai} {e : av}
theorem uk1 (h0 : cw t e = 0) (hc : jr t e ≠ 0) (p : PlaceD) : ef e.ss = none ∧ jr t e = 6 ∧ mh t e = 0 ∧ mg t e = 0 ∧ eu t e p ≠ 8 := by
 cases hf : ef e.ss with
 | some q => simp [jr, h0, hf] at hc
 | none =>
  refine ⟨rfl, by simp [jr, h0, hf], by simp [mh, h0, clA, hf], by simp [mg, h0, clB, hf], ?_⟩
  have hs : bz t e = 0 := by simp [bz, h0, hf]
  unfold eu
  rw [hs]
  cases gp t p <;> cases (ax e.ss (p.ch, p.ln)).isSome <;> simp
theorem ukx (h0 : cw t e = 0) (hc : jr t e = 0) (p : PlaceD) : ∃ (a b : Nat) (x y : StretchD), ef e.ss = some (a, b) ∧ mh t e = (a : Int) ∧ mg t e = (b : Int) ∧ a < b ∧ e.ss[a]? = some x ∧ e.ss[b]? = some y ∧ i1 x y = true ∧ eu t e p = 8 := by
 cases hf : ef e.ss with
 | none => simp [jr, h0, hf] at hc
 | some q =>
  obtain ⟨⟨h1, x, y, hx, hy, hxy⟩, _⟩ := wx hf
  have hs : bz t e = 8 := by simp [bz, h0, hf]
  exact ⟨q.1, q.2, x, y, rfl, by simp [mh, h0, clA, hf], by simp [mg, h0, clB, hf], h1, hx, hy, hxy, by simp [eu, hs]⟩
theorem jw {b c d : Bool} (h : b = true) : (b || (c || d)) = true := by rw [h]; rfl
theorem jv {b c d : Bool} (h : c = true) : (b || (c || d)) = true := by rw [h]; cases b <;> rfl
theorem ju {b c d : Bool} (h : d = true) : (b || (c || d)) = true := by rw [h]; cases b <;> cases c <;> rfl
theorem twF {b c d : Bool} (h : b = false) (h2 : c = false) (h3 : d = false) : (b || (c || d)) = false := by rw [h, h2, h3]; rfl
/-- both alone clash -/
theorem uky (h0 : cw t e = 0) {x y : StretchD} (hx : x ∈ e.ss) (hy : y ∈ e.ss) (h : i1 x y = true) : jr t ⟨e.id, [x, y]⟩ = 0 ∧ mh t ⟨e.id, [x, y]⟩ = 0 ∧ mg t ⟨e.id, [x, y]⟩ = 1 := by
 have hk : cw t ⟨e.id, [x, y]⟩ = 0 := xi h0 (by simp) (by simp [hx, hy])
 have hf := uja h
 exact ⟨by simp [jr, hk, hf], by simp [mh, hk, clA, hf], by simp [mg, hk, clB, hf]⟩
/-- each alone does not -/
theorem uk0 (h0 : cw t e = 0) {x : StretchD} (hx : x ∈ e.ss) : jr t ⟨e.id, [x]⟩ = 6 := by
 have hk : cw t ⟨e.id, [x]⟩ = 0 := xi h0 (by simp) (by simp [hx])
 simp [jr, hk, ujd]
theorem ukz (h0 : cw t e = 0) {a b : Nat} (hl : e.ss.length ≤ 12) (h : ef e.ss = some (a, b)) : jr t ⟨e.id, e.ss.take a⟩ = 6 := by
 have hk : cw t ⟨e.id, e.ss.take a⟩ = 0 := xi h0 (by simp; omega) (fun s hs => List.mem_of_mem_take hs)
 simp [jr, hk, ujb h]
theorem z7 {α : Type} [Enc α] {P : Program} {o : Oper} {st : St} {t e : TypeId} {ag : Bool} [Elt P t e] [Ty P e ag (Enc.n α)] {x y : Operand} {xs : List α} {tok : Tok} {ik : IntKind} {n : Int} {k : Nat} (ho : o.op = .slice t x none (some y) none) (hx : evC st x = .list (xs.map Enc.cells) tok) (hy : evC st y = .v (.int ik n)) (hn : n = (k : Int)) (hk : k ≤ xs.length) : NStep P o st (lst (xs.take k)) := by
 have h := z8 (P := P) (t := t) (e := e) (ag := ag) (sz := Enc.n α) ho hx hy hn (by rw [List.length_map]; exact hk)
 rw [← List.map_take] at h
 exact h
end
end Go.AB
namespace Go.Proofs.YtjjklfgpffgnfaaGreatDoor
set_option maxRecDepth 10000
open Go Go.RowKit Go.AB
open Go.AB.Enc (cells)
open Go.PB (bv ai PlaceD cy c6 cz)
theorem sb : Tryz.prog.underlying 78 = some (.array 2 3) := by kernel_rfl
theorem zg : Tryz.prog.cellsOf 78 = 2 := by kernel_rfl
theorem uih : Tryz.prog.cellsOf 3 = 1 := by kernel_rfl
theorem ugf : Tryz.prog.keyType 78 = true := by kernel_rfl
theorem uge : Go.Maps.Keyed Tryz.prog 78 := Go.Maps.Keyed.of_law (deep_law_laid rh (m := 2) (by omega) (of_decide_eq_true (by kernel_rfl)) (by kernel_rfl) (by rw [sb]))
theorem ugg {i k : Int} (hi : (Lit.int .i64 i).wf = true) (hk : (Lit.int .i64 k).wf = true) : ∃ l, keyOf Tryz.prog 78 (.agg #[.int .i64 i, .int .i64 k]) = some l := by
 obtain ⟨m, hm⟩ := uan
 have hf : (Value.agg #[.int .i64 i, .int .i64 k]).formed Tryz.prog 78 = true := by simp [Value.formed, sb, zg]
 refine ⟨.string (keyBytes [.int .i64 i, .int .i64 k]), ?_⟩
 unfold keyOf
 rw [sb]
 simp only [ugf, hf, Bool.and_self, if_true]
 have e0 : (List.range 2) = [0, 1] := rfl
 have hl : Tryz.prog.keyLits (Tryz.prog.types.size + 1) 78 (Value.agg #[.int .i64 i, .int .i64 k]).cells.toList = some [.int .i64 i, .int .i64 k] := by
  rw [hm]
  unfold Program.keyLits
  simp only [sb, zg, uih, Value.cells]
  unfold Program.keyLits
  simp [sc, e0, hi, hk]
 rw [hl]
 rfl
instance : KeyT Tryz.prog 78 (Int × Int) where
 keyed := uge
 has {E w x v} h := by
  obtain ⟨vs, rfl, h1, _⟩ := R.agg_inv h
  match vs, h1 with
  | [a, b], h1 => exact ugg (re (rj (h1.2 0 _ _ rfl rfl))) (re (rj (h1.2 1 _ _ rfl rfl)))
  | [], h => exact absurd h.1 (by simp)
  | [_], h => exact absurd h.1 (by simp)
  | _ :: _ :: _ :: _, h => exact absurd h.1 (by simp)
set_option maxHeartbeats 8000000 in
theorem ukw (t : ai) (e : av) (p : PlaceD) : da cv Tryz.prog 11 [b8 t, val e, val p] (.v (.bool true)) := by
 refine fy Tryz.func11 rfl (fun m => .v) fun G nx hF => ?_
 simp only [Tryz.ntmps11, List.length_cons, List.length_nil, Nat.reduceAdd, Nat.reduceSub]
 refine bi fun hlt => ?_
 dsimp only at hlt
 have hnx := hlt 0 _ hF
 refine e8 fun K1 hK1 => ?_
 refine dl ?_
 try dsimp only [St.put]
 refine ae rfl (o9 rfl rfl (by simp) ?_)
 try dsimp only [St.put]
 refine ae rfl (o9 rfl rfl (by simp) ?_)
 try dsimp only [St.put]
 refine ae rfl (o9 rfl rfl (by simp) ?_)
 refine aa rfl (cg rfl (by constructor)) ?_
 refine cx ?_
 dsimp only [St.put]
 refine hK1 _ ?_
 refine e8 fun K2 hK2 => ?_
 refine dl ?_
 try dsimp only [St.put]
 refine ae rfl (eb rfl rfl rfl (umh) zG ?_)
 refine aa rfl (cg rfl (by constructor)) ?_
 refine cx ?_
 dsimp only [St.put]
 refine hK2 _ ?_
 refine e8 fun K3 hK3 => ?_
 refine e8 fun K4 hK4 => ?_
 refine dl ?_
 try dsimp only [St.put]
 first | refine af rfl (a7 rfl rfl) ?_ | refine af rfl (aq rfl rfl (Enc.len _)) ?_ | refine af rfl (aq rfl rfl rfl) ?_ | refine af rfl (dd rfl rfl zG trivial (by first | rfl | assumption)) ?_ | refine af rfl (dc rfl rfl zG trivial (by rfl)) ?_ | refine af rfl (ep rfl rfl zG trivial (by simp)) ?_ | refine af rfl (bx rfl rfl zG trivial (em (by assumption) rfl)) ?_ | refine af rfl (bx rfl rfl zG trivial (by assumption)) ?_ | refine af rfl (ei rfl rfl zG trivial rfl (by assumption) rfl (by decide)) ?_ | refine af rfl (eo rfl rfl zG (by rfl)) ?_
 try dsimp only [St.put]
 first | refine af rfl (a7 rfl rfl) ?_ | refine af rfl (aq rfl rfl (Enc.len _)) ?_ | refine af rfl (aq rfl rfl rfl) ?_ | refine af rfl (dd rfl rfl zG trivial (by first | rfl | assumption)) ?_ | refine af rfl (dc rfl rfl zG trivial (by rfl)) ?_ | refine af rfl (ep rfl rfl zG trivial (by simp)) ?_ | refine af rfl (bx rfl rfl zG trivial (em (by assumption) rfl)) ?_ | refine af rfl (bx rfl rfl zG trivial (by assumption)) ?_ | refine af rfl (ei rfl rfl zG trivial rfl (by assumption) rfl (by decide)) ?_ | refine af rfl (eo rfl rfl zG (by rfl)) ?_
 try dsimp only [St.put]
 refine ae rfl (c9 rfl rfl rfl (by decide) (by decide) zR (by decide) ?_)
 try dsimp only [St.put]
 refine ae rfl (bd rfl rfl rfl (uiw t [e]) ?_)
 refine e7 (fun hs => ?_) (fun hs => ?_)
 ·skip
  refine aa rfl (a8 rfl (by constructor)) ?_
  refine di rfl ?_
  refine di rfl ?_
  refine di rfl ?_
  refine di rfl ?_
  first | refine aa rfl (bg rfl rfl (by constructor)) ?_ | refine aa rfl (cd rfl rfl (by constructor)) ?_ | refine aa rfl (dz rfl rfl rfl rfl) ?_ | refine aa rfl (dx rfl rfl rfl rfl) ?_
  refine aa rfl (a8 rfl (by constructor)) ?_
  refine di rfl ?_
  refine di rfl ?_
  first | refine aa rfl (bg rfl rfl (by constructor)) ?_ | refine aa rfl (cd rfl rfl (by constructor)) ?_ | refine aa rfl (dz rfl rfl rfl rfl) ?_ | refine aa rfl (dx rfl rfl rfl rfl) ?_
  refine cx ?_
  dsimp only [St.put]
  refine hK4 _ ?_
  refine al rfl (fun _ => ?_) (fun h => by cases h)
  refine e8 fun K5 hK5 => ?_
  refine dl ?_
  refine aa rfl (a8 rfl (by constructor)) ?_
  refine aa rfl (cg rfl (by constructor)) ?_
  refine cx ?_
  dsimp only [St.put]
  refine hK5 _ ?_
  refine am ?_
  refine bf rfl (by constructor) zN zS ?_
  rfl
 ·have hg : (([e] : List av).any (fun e => decide (20 < e.ss.length)) || n5 t) = false := hs
  simp only [List.any_cons, List.any_nil, Bool.or_false, Bool.or_eq_false_iff, decide_eq_false_iff_not] at hg
  have hle : e.ss.length ≤ 20 := by omega
  refine aa rfl (a8 rfl (by constructor)) ?_
  try dsimp only [St.put]
  first | refine af rfl (a7 rfl rfl) ?_ | refine af rfl (aq rfl rfl (Enc.len _)) ?_ | refine af rfl (aq rfl rfl rfl) ?_ | refine af rfl (dd rfl rfl zG trivial (by first | rfl | assumption)) ?_ | refine af rfl (dc rfl rfl zG trivial (by rfl)) ?_ | refine af rfl (ep rfl rfl zG trivial (by simp)) ?_ | refine af rfl (bx rfl rfl zG trivial (em (by assumption) rfl)) ?_ | refine af rfl (bx rfl rfl zG trivial (by assumption)) ?_ | refine af rfl (ei rfl rfl zG trivial rfl (by assumption) rfl (by decide)) ?_ | refine af rfl (eo rfl rfl zG (by rfl)) ?_
  try dsimp only [St.put]
  first | refine af rfl (a7 rfl rfl) ?_ | refine af rfl (aq rfl rfl (Enc.len _)) ?_ | refine af rfl (aq rfl rfl rfl) ?_ | refine af rfl (dd rfl rfl zG trivial (by first | rfl | assumption)) ?_ | refine af rfl (dc rfl rfl zG trivial (by rfl)) ?_ | refine af rfl (ep rfl rfl zG trivial (by simp)) ?_ | refine af rfl (bx rfl rfl zG trivial (em (by assumption) rfl)) ?_ | refine af rfl (bx rfl rfl zG trivial (by assumption)) ?_ | refine af rfl (ei rfl rfl zG trivial rfl (by assumption) rfl (by decide)) ?_ | refine af rfl (eo rfl rfl zG (by rfl)) ?_
  try dsimp only [St.put]
  refine ae rfl (bd rfl rfl rfl (um6 t e) ?_)
  refine aa rfl (dt rfl rfl rfl) ?_
  refine e7 (fun hs => ?_) (fun hs => ?_)
  ·skip
   first | refine aa rfl (bg rfl rfl (by constructor)) ?_ | refine aa rfl (cd rfl rfl (by constructor)) ?_ | refine aa rfl (dz rfl rfl rfl rfl) ?_ | refine aa rfl (dx rfl rfl rfl rfl) ?_
   refine aa rfl (a8 rfl (by constructor)) ?_
   refine di rfl ?_
   refine di rfl ?_
   first | refine aa rfl (bg rfl rfl (by constructor)) ?_ | refine aa rfl (cd rfl rfl (by constructor)) ?_ | refine aa rfl (dz rfl rfl rfl rfl) ?_ | refine aa rfl (dx rfl rfl rfl rfl) ?_
   refine cx ?_
   dsimp only [St.put]
   refine hK4 _ ?_
   refine al rfl (fun _ => ?_) (fun h => by cases h)
   refine e8 fun K6 hK6 => ?_
   refine dl ?_
   refine aa rfl (a8 rfl (by constructor)) ?_
   refine aa rfl (cg rfl (by constructor)) ?_
   refine cx ?_
   dsimp only [St.put]
   refine hK6 _ ?_
   refine am ?_
   refine bf rfl (by constructor) zN zS ?_
   rfl
  ·have h0 : cw t e = 0 := li hs
   obtain ⟨ht, hed⟩ := tz h0
   obtain ⟨hl12, hok⟩ := ubx ht hed
   have hcl := t7 t e hle
   have hA10 : ∀ s ∈ e.ss, (dp s).length ≤ 10 := fun s hs => by have h1 := (hok s hs).tt; have h2 := (hok s hs).fr; unfold dp lnN; rw [List.length_map, List.length_range]; omega
   have hB10 : ∀ s ∈ e.ss, (dh s).length ≤ 10 := fun s hs => by have h1 := (hok s hs).tt; have h2 := (hok s hs).fr; unfold dh lnN; rw [List.length_map, List.length_range]; omega
   have hUA := fun k i => ye hA10 k i
   have hUB := fun k i => ye hB10 k i
   have hrf := t6 t e p hle
   obtain ⟨ca, hca⟩ : ∃ z, mh t e = z := ⟨_, rfl⟩
   obtain ⟨cb, hcb⟩ : ∃ z, mg t e = z := ⟨_, rfl⟩
   obtain ⟨ce, hce⟩ : ∃ z, jr t e = z := ⟨_, rfl⟩
   obtain ⟨fe, hfe⟩ : ∃ z, eu t e p = z := ⟨_, rfl⟩
   rw [hca, hcb, hce] at hcl
   rw [hfe] at hrf
   first | refine aa rfl (bg rfl rfl (by constructor)) ?_ | refine aa rfl (cd rfl rfl (by constructor)) ?_ | refine aa rfl (dz rfl rfl rfl rfl) ?_ | refine aa rfl (dx rfl rfl rfl rfl) ?_
   refine aa rfl (a8 rfl (by constructor)) ?_
   refine aa rfl (a8 rfl (by constructor)) ?_
   refine aa rfl (dn rfl rfl) ?_
   first | refine aa rfl (bg rfl rfl (by constructor)) ?_ | refine aa rfl (cd rfl rfl (by constructor)) ?_ | refine aa rfl (dz rfl rfl rfl rfl) ?_ | refine aa rfl (dx rfl rfl rfl rfl) ?_
   refine cx ?_
   dsimp only [St.put]
   refine hK4 _ ?_
   refine al rfl (fun h => by cases h) (fun _ => ?_)
   refine aw ?_
   refine hK3 _ ?_
   refine e8 fun K7 hK7 => ?_
   refine dl ?_
   try dsimp only [St.put]
   first | refine af rfl (a7 rfl rfl) ?_ | refine af rfl (aq rfl rfl (Enc.len _)) ?_ | refine af rfl (aq rfl rfl rfl) ?_ | refine af rfl (dd rfl rfl zG trivial (by first | rfl | assumption)) ?_ | refine af rfl (dc rfl rfl zG trivial (by rfl)) ?_ | refine af rfl (ep rfl rfl zG trivial (by simp)) ?_ | refine af rfl (bx rfl rfl zG trivial (em (by assumption) rfl)) ?_ | refine af rfl (bx rfl rfl zG trivial (by assumption)) ?_ | refine af rfl (ei rfl rfl zG trivial rfl (by assumption) rfl (by decide)) ?_ | refine af rfl (eo rfl rfl zG (by rfl)) ?_
   try dsimp only [St.put]
   first | refine af rfl (a7 rfl rfl) ?_ | refine af rfl (aq rfl rfl (Enc.len _)) ?_ | refine af rfl (aq rfl rfl rfl) ?_ | refine af rfl (dd rfl rfl zG trivial (by first | rfl | assumption)) ?_ | refine af rfl (dc rfl rfl zG trivial (by rfl)) ?_ | refine af rfl (ep rfl rfl zG trivial (by simp)) ?_ | refine af rfl (bx rfl rfl zG trivial (em (by assumption) rfl)) ?_ | refine af rfl (bx rfl rfl zG trivial (by assumption)) ?_ | refine af rfl (ei rfl rfl zG trivial rfl (by assumption) rfl (by decide)) ?_ | refine af rfl (eo rfl rfl zG (by rfl)) ?_
   try dsimp only [St.put]
   refine ae rfl (eb rfl rfl rfl (hcl) zG ?_)
   refine aa rfl (a8 rfl (by constructor)) ?_
   refine aa rfl (c7 rfl rfl rfl) ?_
   refine aa rfl (c7 rfl rfl rfl) ?_
   refine aa rfl (c7 rfl rfl rfl) ?_
   refine aa rfl (cg rfl (by constructor)) ?_
   refine aa rfl (cg rfl (by constructor)) ?_
   refine aa rfl (cg rfl (by constructor)) ?_
   refine cx ?_
   dsimp only [St.put]
   refine hK7 _ ?_
   refine e8 fun K8 hK8 => ?_
   refine dl ?_
   try dsimp only [St.put]
   refine ae rfl (ub5 rfl ?_)
   try dsimp only [St.put]
   refine ae rfl (ub5 rfl ?_)
   refine aa rfl (cg rfl (by constructor)) ?_
   refine aa rfl (cg rfl (by constructor)) ?_
   refine cx ?_
   dsimp only [St.put]
   refine hK8 _ ?_
   refine e8 fun K9 hK9 => ?_
   refine dl ?_
   refine aa rfl (cg rfl (by constructor)) ?_
   refine cx ?_
   dsimp only [St.put]
   refine hK9 _ ?_
   refine e8 fun K10 hK10 => ?_
   refine e8 fun K11 hK11 => ?_
   refine dl ?_
   first | refine aa rfl (b9 rfl rfl rfl) ?_ | refine aa rfl (ge rfl rfl) ?_
   try dsimp only [St.put]
   first | refine af rfl (a7 rfl rfl) ?_ | refine af rfl (aq rfl rfl (Enc.len _)) ?_ | refine af rfl (aq rfl rfl rfl) ?_ | refine af rfl (dd rfl rfl zG trivial (by first | rfl | assumption)) ?_ | refine af rfl (dc rfl rfl zG trivial (by rfl)) ?_ | refine af rfl (ep rfl rfl zG trivial (by simp)) ?_ | refine af rfl (bx rfl rfl zG trivial (em (by assumption) rfl)) ?_ | refine af rfl (bx rfl rfl zG trivial (by assumption)) ?_ | refine af rfl (ei rfl rfl zG trivial rfl (by assumption) rfl (by decide)) ?_ | refine af rfl (eo rfl rfl zG (by rfl)) ?_
   first | refine aa rfl (ck rfl rfl (List.length_map _)) ?_ | refine aa rfl (ck rfl rfl rfl) ?_ | refine aa rfl (py rfl rfl) ?_ | refine aa rfl (uab rfl rfl) ?_ | refine aa rfl (oq rfl rfl) ?_ | refine aa rfl (vk rfl rfl (by omega)) ?_
   refine aa rfl (a8 rfl (by constructor)) ?_
   refine cx ?_
   dsimp only [St.put]
   refine hK11 _ ?_
   refine bn ?_
   refine eg 61 ?_
   simp only [dj, bq, Nat.reduceAdd, List.getD_cons_zero, List.getD_cons_succ, List.getD_nil, dw, Nat.reduceBEq, cond_true, cond_false]
   refine fg ((ak (ak G nx (kn Tryz.prog 78 (2 * (([] : List L2)).length) (([] : List L2)).length (jf (([] : List L2))))) (nx + 1) (kn Tryz.prog 78 (2 * (([] : List L2)).length) (([] : List L2)).length (jf (([] : List L2)))))) zX ?_
   dsimp only
   refine fu (X := Nat × Bool) (fun x => x.1 ≤ e.ss.length ∧ x.2 = twB (upS dp e.ss x.1 0) (upS dh e.ss x.1 0)) (fun x => e.ss.length - x.1) (fun x => [(13, .v (.bool x.2)), (15, .any), (16, .any), (17, .any), (18, .any), (60, .v (.int .i64 (x.1 : Int)))]) (fun x G' => (ak (ak G nx (kn Tryz.prog 78 (2 * ((upS dp e.ss x.1 0)).length) ((upS dp e.ss x.1 0)).length (jf ((upS dp e.ss x.1 0))))) (nx + 1) (kn Tryz.prog 78 (2 * ((upS dh e.ss x.1 0)).length) ((upS dh e.ss x.1 0)).length (jf ((upS dh e.ss x.1 0)))))) (0, false) rfl ?_ ?_ ?_ ?_ ?_ ?_
   ·exact ⟨Nat.zero_le _, by dsimp only; rw [r9, r9]; rfl⟩
   ·exact zF
   ·dsimp only
    rw [r9, r9]
    exact zX
   ·rintro ⟨k, b⟩ hI
    exact (by (try dsimp only); repeat' (first | exact trivial | refine ⟨?_, ?_⟩ | exact .v | exact .any | refine .elem ?_ | exact bh _ _ | exact e9 _ _ | exact dq _ _ | exact ff _ (by (try dsimp only); omega) | exact .box (by (try dsimp only); omega) | exact ed | exact bl | exact tu | refine fa ?_ ?_ | exact .arr (by (try dsimp only); omega) | exact .own (by (try dsimp only); omega) | exact .map (by (try dsimp only); omega) | exact ez _ | refine ar ?_ ?_ | exact bh _ _))
   ·rintro ⟨k, b⟩ hI
    exact (by (repeat' (refine gt ?_ (by (try dsimp only); omega) ?_)); all_goals (first | exact ie zS | (repeat' (first | exact trivial | refine ⟨?_, ?_⟩ | exact .v | exact .any | refine .elem ?_ | exact bh _ _ | exact e9 _ _ | exact dq _ _ | exact ff _ (by (try dsimp only); omega) | exact .box (by (try dsimp only); omega) | exact ed | exact bl | exact tu | refine fa ?_ ?_ | exact .arr (by (try dsimp only); omega) | exact .own (by (try dsimp only); omega) | exact .map (by (try dsimp only); omega) | exact ez _ | refine ar ?_ ?_ | exact bh _ _))))
   ·rintro ⟨k, b⟩ hI
    dsimp only at hI ⊢
    refine e8 fun K12 hK12 => ?_
    refine dl ?_
    refine aa rfl (cr rfl rfl rfl) ?_
    refine cx ?_
    dsimp only [St.put]
    refine hK12 _ ?_
    refine e8 fun K13 hK13 => ?_
    refine al rfl (fun hc => ?_) (fun hc => ?_)
    ·replace hc := of_decide_eq_true hc
     obtain ⟨s, hx⟩ : ∃ x, e.ss[k]? = some x := fj (by omega)
     obtain ⟨s1, s2, s3, s4, s5, s6⟩ := hok s (gr hx)
     have hln : s.tt - s.fr = ((lnN s : Nat) : Int) := by unfold lnN; omega
     have hnA : (dp s).length = lnN s := by unfold dp; simp
     have hnB : (dh s).length = lnN s := by unfold dh; simp
     refine aw ?_
     refine hK13 _ ?_
     refine e8 fun K14 hK14 => ?_
     refine bn ?_
     refine e8 fun K15 hK15 => ?_
     refine dl ?_
     try dsimp only [St.put]
     first | refine aa rfl (b7 rfl rfl rfl rfl (cm (by assumption)) (Enc.len _)) ?_ | refine aa rfl (b7 rfl rfl rfl rfl (by assumption) rfl) ?_ | refine aa rfl (vl rfl rfl rfl (by first | exact we _ | exact rfl) (by omega)) ?_ | refine aa rfl (b7 rfl rfl rfl (by omega) (cm (by assumption)) (Enc.len _)) ?_
     try dsimp only [St.put]
     first | refine af rfl (a7 rfl rfl) ?_ | refine af rfl (aq rfl rfl (Enc.len _)) ?_ | refine af rfl (aq rfl rfl rfl) ?_ | refine af rfl (dd rfl rfl zG trivial (by first | rfl | assumption)) ?_ | refine af rfl (dc rfl rfl zG trivial (by rfl)) ?_ | refine af rfl (ep rfl rfl zG trivial (by simp)) ?_ | refine af rfl (bx rfl rfl zG trivial (em (by assumption) rfl)) ?_ | refine af rfl (bx rfl rfl zG trivial (by assumption)) ?_ | refine af rfl (ei rfl rfl zG trivial rfl (by assumption) rfl (by decide)) ?_ | refine af rfl (eo rfl rfl zG (by rfl)) ?_
     try dsimp only [St.put]
     refine ae rfl (bp rfl ?_)
     try dsimp only [St.put]
     first | refine ae rfl (ay rfl rfl rfl zG rfl rfl (by rfl) ?_) | refine ae rfl (lq rfl rfl rfl zG (by constructor) rfl (by first | (simp; done) | (simp; omega) | exact Nat.lt_of_lt_of_eq (by decide) (Enc.len _).symm) ?_)
     refine cx ?_
     dsimp only [St.put]
     refine hK15 _ ?_
     refine dg (i := 15) rfl zG (by first | exact List.cons_ne_nil _ _ | (simp; done) | (simp [putAt]; done)) ?_
     dsimp only
     refine e8 fun K16 hK16 => ?_
     refine dl ?_
     first | refine aa rfl (b9 rfl rfl rfl) ?_ | refine aa rfl (ge rfl rfl) ?_
     try dsimp only [St.put]
     first | refine af rfl (a7 rfl rfl) ?_ | refine af rfl (aq rfl rfl (Enc.len _)) ?_ | refine af rfl (aq rfl rfl rfl) ?_ | refine af rfl (dd rfl rfl zG trivial (by first | rfl | assumption)) ?_ | refine af rfl (dc rfl rfl zG trivial (by rfl)) ?_ | refine af rfl (ep rfl rfl zG trivial (by simp)) ?_ | refine af rfl (bx rfl rfl zG trivial (em (by assumption) rfl)) ?_ | refine af rfl (bx rfl rfl zG trivial (by assumption)) ?_ | refine af rfl (ei rfl rfl zG trivial rfl (by assumption) rfl (by decide)) ?_ | refine af rfl (eo rfl rfl zG (by rfl)) ?_
     first | refine aa rfl (b9 rfl rfl rfl) ?_ | refine aa rfl (ge rfl rfl) ?_
     try dsimp only [St.put]
     first | refine af rfl (a7 rfl rfl) ?_ | refine af rfl (aq rfl rfl (Enc.len _)) ?_ | refine af rfl (aq rfl rfl rfl) ?_ | refine af rfl (dd rfl rfl zG trivial (by first | rfl | assumption)) ?_ | refine af rfl (dc rfl rfl zG trivial (by rfl)) ?_ | refine af rfl (ep rfl rfl zG trivial (by simp)) ?_ | refine af rfl (bx rfl rfl zG trivial (em (by assumption) rfl)) ?_ | refine af rfl (bx rfl rfl zG trivial (by assumption)) ?_ | refine af rfl (ei rfl rfl zG trivial rfl (by assumption) rfl (by decide)) ?_ | refine af rfl (eo rfl rfl zG (by rfl)) ?_
     first | refine aa rfl (ip rfl rfl rfl (by omega)) ?_ | refine aa rfl (ugv rfl rfl rfl) ?_
     refine aa rfl (a8 rfl (by constructor)) ?_
     refine cx ?_
     dsimp only [St.put]
     refine hK16 _ ?_
     refine bn ?_
     refine eg 70 ?_
     simp only [dj, bq, Nat.reduceAdd, List.getD_cons_zero, List.getD_cons_succ, List.getD_nil, dw, Nat.reduceBEq, cond_true, cond_false]
     refine fg ((ak (ak G nx (kn Tryz.prog 78 (2 * ((upS dp e.ss k 0)).length) ((upS dp e.ss k 0)).length (jf ((upS dp e.ss k 0))))) (nx + 1) (kn Tryz.prog 78 (2 * ((upS dh e.ss k 0)).length) ((upS dh e.ss k 0)).length (jf ((upS dh e.ss k 0)))))) zX ?_
     dsimp only
     refine fu (X := Nat × Bool) (fun y => y.1 ≤ lnN s ∧ y.2 = twB (upS dp e.ss k y.1) (upS dh e.ss k y.1)) (fun y => lnN s - y.1) (fun y => [(13, .v (.bool y.2)), (16, .any), (17, .any), (18, .any), (69, .v (.int .i64 (y.1 : Int)))]) (fun y G' => (ak (ak G nx (kn Tryz.prog 78 (2 * ((upS dp e.ss k y.1)).length) ((upS dp e.ss k y.1)).length (jf ((upS dp e.ss k y.1))))) (nx + 1) (kn Tryz.prog 78 (2 * ((upS dh e.ss k y.1)).length) ((upS dh e.ss k y.1)).length (jf ((upS dh e.ss k y.1)))))) (0, b) rfl ?_ ?_ ?_ ?_ ?_ ?_
     ·exact ⟨Nat.zero_le _, hI.2⟩
     ·exact zF
     ·exact zX
     ·rintro ⟨i, b2⟩ hI
      exact (by (try dsimp only); repeat' (first | exact trivial | refine ⟨?_, ?_⟩ | exact .v | exact .any | refine .elem ?_ | exact bh _ _ | exact e9 _ _ | exact dq _ _ | exact ff _ (by (try dsimp only); omega) | exact .box (by (try dsimp only); omega) | exact ed | exact bl | exact tu | refine fa ?_ ?_ | exact .arr (by (try dsimp only); omega) | exact .own (by (try dsimp only); omega) | exact .map (by (try dsimp only); omega) | exact ez _ | refine ar ?_ ?_ | exact bh _ _))
     ·rintro ⟨i, b2⟩ hI
      exact (by (repeat' (refine gt ?_ (by (try dsimp only); omega) ?_)); all_goals (first | exact ie zS | (repeat' (first | exact trivial | refine ⟨?_, ?_⟩ | exact .v | exact .any | refine .elem ?_ | exact bh _ _ | exact e9 _ _ | exact dq _ _ | exact ff _ (by (try dsimp only); omega) | exact .box (by (try dsimp only); omega) | exact ed | exact bl | exact tu | refine fa ?_ ?_ | exact .arr (by (try dsimp only); omega) | exact .own (by (try dsimp only); omega) | exact .map (by (try dsimp only); omega) | exact ez _ | refine ar ?_ ?_ | exact bh _ _))))
     ·rintro ⟨i, b2⟩ hJ
      dsimp only at hJ ⊢
      refine e8 fun K17 hK17 => ?_
      refine dl ?_
      refine aa rfl (cr rfl rfl rfl) ?_
      refine cx ?_
      dsimp only [St.put]
      refine hK17 _ ?_
      refine e8 fun K18 hK18 => ?_
      refine al rfl (fun hc => ?_) (fun hc => ?_)
      ·replace hc := of_decide_eq_true hc
       have hi : i < lnN s := by omega
       have hsA := yd hx (uma hi)
       have hsB := yd hx (umc hi)
       have htw := ud6 (upS dp e.ss k i) (upS dh e.ss k i) (s.ch, s.fr + (i : Int)) (s.au, s.fi + (i : Int))
       rw [← hsA, ← hsB, ← hJ.2] at htw
       have hla := hUA k i
       have hlb := hUB k i
       have hcA : ((upS dp e.ss k i)).count (s.ch, s.fr + (i : Int)) ≤ ((upS dp e.ss k i)).length := List.count_le_length
       have hcB : ((upS dh e.ss k i)).count (s.au, s.fi + (i : Int)) ≤ ((upS dh e.ss k i)).length := List.count_le_length
       refine aw ?_
       refine hK18 _ ?_
       refine e8 fun K19 hK19 => ?_
       refine bn ?_
       refine e8 fun K20 hK20 => ?_
       refine dl ?_
       refine aa rfl (a8 rfl (by constructor)) ?_
       refine aa rfl (cg rfl (by constructor)) ?_
       refine cx ?_
       dsimp only [St.put]
       refine hK20 _ ?_
       refine e8 fun K21 hK21 => ?_
       refine gj [(0, none), (1, none), (2, none), (3, none), (4, none), (5, none), (6, none), (7, none), (8, none), (9, none), (10, none), (11, none), (12, none), (13, none), (14, some 15), (16, none), (17, none)] (fun i => [17].contains i) (fun i => [14, 15, 16, 17].contains i) (fun i => [0, 2, 4, 5, 6, 7, 9, 11, 12, 13].contains i) [] (by kernel_rfl) (by kernel_rfl) ?_
       first | refine ah rfl rfl rfl rfl (b9 rfl rfl rfl) ?_ | refine ah rfl rfl rfl rfl (ge rfl rfl) ?_
       try dsimp only [St.put]
       first | refine aj rfl rfl rfl rfl (a7 rfl rfl) ?_ | refine aj rfl rfl rfl rfl (aq rfl rfl (Enc.len _)) ?_ | refine aj rfl rfl rfl rfl (aq rfl rfl rfl) ?_ | refine aj rfl rfl rfl rfl (dd rfl rfl zG (by simp) (by first | rfl | assumption)) ?_ | refine aj rfl rfl rfl rfl (dc rfl rfl zG (by simp) (by rfl)) ?_ | refine aj rfl rfl rfl rfl (ep rfl rfl zG (by simp) (by simp)) ?_ | refine aj rfl rfl rfl rfl (bx rfl rfl zG (by simp) (em (by assumption) rfl)) ?_ | refine aj rfl rfl rfl rfl (bx rfl rfl zG (by simp) (by assumption)) ?_ | refine aj rfl rfl rfl rfl (ei rfl rfl zG (by simp) rfl (by assumption) rfl (by decide)) ?_ | refine aj rfl rfl rfl rfl (eo rfl rfl zG (by rfl)) ?_
       first | refine ah rfl rfl rfl rfl (b9 rfl rfl rfl) ?_ | refine ah rfl rfl rfl rfl (ge rfl rfl) ?_
       try dsimp only [St.put]
       first | refine aj rfl rfl rfl rfl (a7 rfl rfl) ?_ | refine aj rfl rfl rfl rfl (aq rfl rfl (Enc.len _)) ?_ | refine aj rfl rfl rfl rfl (aq rfl rfl rfl) ?_ | refine aj rfl rfl rfl rfl (dd rfl rfl zG (by simp) (by first | rfl | assumption)) ?_ | refine aj rfl rfl rfl rfl (dc rfl rfl zG (by simp) (by rfl)) ?_ | refine aj rfl rfl rfl rfl (ep rfl rfl zG (by simp) (by simp)) ?_ | refine aj rfl rfl rfl rfl (bx rfl rfl zG (by simp) (em (by assumption) rfl)) ?_ | refine aj rfl rfl rfl rfl (bx rfl rfl zG (by simp) (by assumption)) ?_ | refine aj rfl rfl rfl rfl (ei rfl rfl zG (by simp) rfl (by assumption) rfl (by decide)) ?_ | refine aj rfl rfl rfl rfl (eo rfl rfl zG (by rfl)) ?_
       refine ah rfl rfl rfl rfl (a8 rfl (by constructor)) ?_
       first | refine ah rfl rfl rfl rfl (bw rfl rfl rfl (by omega)) ?_ | refine ah rfl rfl rfl rfl (ib rfl rfl rfl) ?_
       refine ah rfl rfl rfl rfl (ir rfl rfl) ?_
       first | refine ah rfl rfl rfl rfl (b9 rfl rfl rfl) ?_ | refine ah rfl rfl rfl rfl (ge rfl rfl) ?_
       try dsimp only [St.put]
       first | refine aj rfl rfl rfl rfl (a7 rfl rfl) ?_ | refine aj rfl rfl rfl rfl (aq rfl rfl (Enc.len _)) ?_ | refine aj rfl rfl rfl rfl (aq rfl rfl rfl) ?_ | refine aj rfl rfl rfl rfl (dd rfl rfl zG (by simp) (by first | rfl | assumption)) ?_ | refine aj rfl rfl rfl rfl (dc rfl rfl zG (by simp) (by rfl)) ?_ | refine aj rfl rfl rfl rfl (ep rfl rfl zG (by simp) (by simp)) ?_ | refine aj rfl rfl rfl rfl (bx rfl rfl zG (by simp) (em (by assumption) rfl)) ?_ | refine aj rfl rfl rfl rfl (bx rfl rfl zG (by simp) (by assumption)) ?_ | refine aj rfl rfl rfl rfl (ei rfl rfl zG (by simp) rfl (by assumption) rfl (by decide)) ?_ | refine aj rfl rfl rfl rfl (eo rfl rfl zG (by rfl)) ?_
       first | refine ah rfl rfl rfl rfl (b9 rfl rfl rfl) ?_ | refine ah rfl rfl rfl rfl (ge rfl rfl) ?_
       try dsimp only [St.put]
       first | refine aj rfl rfl rfl rfl (a7 rfl rfl) ?_ | refine aj rfl rfl rfl rfl (aq rfl rfl (Enc.len _)) ?_ | refine aj rfl rfl rfl rfl (aq rfl rfl rfl) ?_ | refine aj rfl rfl rfl rfl (dd rfl rfl zG (by simp) (by first | rfl | assumption)) ?_ | refine aj rfl rfl rfl rfl (dc rfl rfl zG (by simp) (by rfl)) ?_ | refine aj rfl rfl rfl rfl (ep rfl rfl zG (by simp) (by simp)) ?_ | refine aj rfl rfl rfl rfl (bx rfl rfl zG (by simp) (em (by assumption) rfl)) ?_ | refine aj rfl rfl rfl rfl (bx rfl rfl zG (by simp) (by assumption)) ?_ | refine aj rfl rfl rfl rfl (ei rfl rfl zG (by simp) rfl (by assumption) rfl (by decide)) ?_ | refine aj rfl rfl rfl rfl (eo rfl rfl zG (by rfl)) ?_
       refine ah rfl rfl rfl rfl (a8 rfl (by constructor)) ?_
       first | refine ah rfl rfl rfl rfl (bw rfl rfl rfl (by omega)) ?_ | refine ah rfl rfl rfl rfl (ib rfl rfl rfl) ?_
       refine ah rfl rfl rfl rfl (ir rfl rfl) ?_
       refine il ?_
       refine ub rfl rfl rfl rfl rfl rfl rfl rfl (by decide) (by simp) ?_
       try dsimp only [St.put]
       first | refine jl rfl rfl rfl (ay rfl rfl rfl zG rfl rfl (by rfl) ⟨zD, ?_⟩) | refine jl rfl rfl rfl (lq rfl rfl rfl zG (by constructor) rfl (by first | (simp; done) | (simp; omega) | exact Nat.lt_of_lt_of_eq (by decide) (Enc.len _).symm) ⟨zD, ?_⟩)
       try dsimp only [St.put]
       first | refine gn rfl rfl rfl rfl (ay rfl rfl rfl zG rfl rfl (by rfl) ?_) | refine gn rfl rfl rfl rfl (lq rfl rfl rfl zG (by constructor) rfl (by first | (simp; done) | (simp; omega) | exact Nat.lt_of_lt_of_eq (by decide) (Enc.len _).symm) ?_)
       refine ij ?_
       dsimp only [St.put]
       refine hK21 _ ?_
       refine dg (i := 17) rfl zG (by first | exact List.cons_ne_nil _ _ | (simp; done) | (simp [putAt]; done)) ?_
       refine dg (i := 18) rfl zG (by first | exact List.cons_ne_nil _ _ | (simp; done) | (simp [putAt]; done)) ?_
       dsimp only
       refine e8 fun K22 hK22 => ?_
       refine la [(0, none), (1, none)] (fun _ => false) (fun i => [0].contains i) 5 [true, true, false, false, false, false, false] (by kernel_rfl) (by kernel_rfl) ?_
       refine ah rfl rfl rfl rfl (a8 rfl (by constructor)) ?_
       try dsimp only [St.put]
       first | refine aj rfl rfl rfl rfl (a7 rfl rfl) ?_ | refine aj rfl rfl rfl rfl (aq rfl rfl (Enc.len _)) ?_ | refine aj rfl rfl rfl rfl (aq rfl rfl rfl) ?_ | refine aj rfl rfl rfl rfl (dd rfl rfl zG (by simp) (by first | rfl | assumption)) ?_ | refine aj rfl rfl rfl rfl (dc rfl rfl zG (by simp) (by rfl)) ?_ | refine aj rfl rfl rfl rfl (ep rfl rfl zG (by simp) (by simp)) ?_ | refine aj rfl rfl rfl rfl (bx rfl rfl zG (by simp) (em (by assumption) rfl)) ?_ | refine aj rfl rfl rfl rfl (bx rfl rfl zG (by simp) (by assumption)) ?_ | refine aj rfl rfl rfl rfl (ei rfl rfl zG (by simp) rfl (by assumption) rfl (by decide)) ?_ | refine aj rfl rfl rfl rfl (eo rfl rfl zG (by rfl)) ?_
       refine bu ?_
       refine bk [2, 4] (by kernel_rfl) (by simp) ?_
       refine bc ?_ ?_
       ·try dsimp only [St.put]
        refine qi rfl rfl rfl (kf (α := Int × Int) (c := .v (.int .i64 (((upS dp e.ss k i)).count (s.ch, s.fr + (i : Int)) : Int))) (s.ch, s.fr + (i : Int)) rfl rfl zG (by intro _ _ h; exact h.1) trivial rfl ((by first | exact g7 _ _ | (simp only [f7, if_true]; exact g7 _ _) | simp [f7]))) ?_
        refine cq [(3, none)] (fun i => [3].contains i) 3 [true, true, true, true, false, false, false] (by kernel_rfl) ?_
        first | refine ah rfl rfl rfl rfl (bw rfl rfl rfl (by omega)) ?_ | refine ah rfl rfl rfl rfl (ib rfl rfl rfl) ?_
        refine bu ?_
        refine bk [4] (by kernel_rfl) (by simp) ?_
        refine bc ?_ ?_
        ·try dsimp only [St.put]
         refine br rfl rfl rfl (qc (α := Int × Int) (c := .v (.int .i64 (((upS dp e.ss k i)).count (s.ch, s.fr + (i : Int)) : Int))) (s.ch, s.fr + (i : Int)) rfl rfl zG rfl (by omega) (g7 _ _) rfl (fun sn => ?_))
         refine cq [(5, none)] (fun i => [5].contains i) 1 [true, true, true, true, true, true, false] (by kernel_rfl) ?_
         refine ah rfl rfl rfl rfl (c7 rfl rfl rfl) ?_
         refine bu ?_
         refine bk [6] (by kernel_rfl) (by simp) ?_
         refine bc ?_ ?_
         ·try dsimp only [St.put]
          refine br rfl rfl rfl (qd (α := Int × Int) (s := sn) (s.ch, s.fr + (i : Int)) rfl rfl rfl zG rfl (qf _ _ _) ?_)
          dsimp only [St.put]
          refine gk (by kernel_rfl) ?_
          refine hK22 _ ?_
          refine e8 fun K23 hK23 => ?_
          refine la [(0, none), (1, none)] (fun _ => false) (fun i => [0].contains i) 5 [true, true, false, false, false, false, false] (by kernel_rfl) (by kernel_rfl) ?_
          refine ah rfl rfl rfl rfl (a8 rfl (by constructor)) ?_
          try dsimp only [St.put]
          first | refine aj rfl rfl rfl rfl (a7 rfl rfl) ?_ | refine aj rfl rfl rfl rfl (aq rfl rfl (Enc.len _)) ?_ | refine aj rfl rfl rfl rfl (aq rfl rfl rfl) ?_ | refine aj rfl rfl rfl rfl (dd rfl rfl zG (by simp) (by first | rfl | assumption)) ?_ | refine aj rfl rfl rfl rfl (dc rfl rfl zG (by simp) (by rfl)) ?_ | refine aj rfl rfl rfl rfl (ep rfl rfl zG (by simp) (by simp)) ?_ | refine aj rfl rfl rfl rfl (bx rfl rfl zG (by simp) (em (by assumption) rfl)) ?_ | refine aj rfl rfl rfl rfl (bx rfl rfl zG (by simp) (by assumption)) ?_ | refine aj rfl rfl rfl rfl (ei rfl rfl zG (by simp) rfl (by assumption) rfl (by decide)) ?_ | refine aj rfl rfl rfl rfl (eo rfl rfl zG (by rfl)) ?_
          refine bu ?_
          refine bk [2, 4] (by kernel_rfl) (by simp) ?_
          refine bc ?_ ?_
          ·try dsimp only [St.put]
           refine qi rfl rfl rfl (kf (α := Int × Int) (c := .v (.int .i64 (((upS dh e.ss k i)).count (s.au, s.fi + (i : Int)) : Int))) (s.au, s.fi + (i : Int)) rfl rfl zG (by intro _ _ h; exact h.1) trivial rfl ((by first | exact g7 _ _ | (simp only [f7, if_true]; exact g7 _ _) | simp [f7]))) ?_
           refine cq [(3, none)] (fun i => [3].contains i) 3 [true, true, true, true, false, false, false] (by kernel_rfl) ?_
           first | refine ah rfl rfl rfl rfl (bw rfl rfl rfl (by omega)) ?_ | refine ah rfl rfl rfl rfl (ib rfl rfl rfl) ?_
           refine bu ?_
           refine bk [4] (by kernel_rfl) (by simp) ?_
           refine bc ?_ ?_
           ·try dsimp only [St.put]
            refine br rfl rfl rfl (qc (α := Int × Int) (c := .v (.int .i64 (((upS dh e.ss k i)).count (s.au, s.fi + (i : Int)) : Int))) (s.au, s.fi + (i : Int)) rfl rfl zG rfl (by omega) (g7 _ _) rfl (fun sn => ?_))
            refine cq [(5, none)] (fun i => [5].contains i) 1 [true, true, true, true, true, true, false] (by kernel_rfl) ?_
            refine ah rfl rfl rfl rfl (c7 rfl rfl rfl) ?_
            refine bu ?_
            refine bk [6] (by kernel_rfl) (by simp) ?_
            refine bc ?_ ?_
            ·try dsimp only [St.put]
             refine br rfl rfl rfl (qd (α := Int × Int) (s := sn) (s.au, s.fi + (i : Int)) rfl rfl rfl zG rfl (qf _ _ _) ?_)
             dsimp only [St.put]
             refine gk (by kernel_rfl) ?_
             have hla1 : ((upS dp e.ss k i) ++ [(s.ch, s.fr + (i : Int))]).length = ((upS dp e.ss k i)).length + 1 := by simp
             have hlb1 : ((upS dh e.ss k i) ++ [(s.au, s.fi + (i : Int))]).length = ((upS dh e.ss k i)).length + 1 := by simp
             rw [← hsA] at hla1
             rw [← hsB] at hlb1
             have h2a : 2 * ((upS dp e.ss k (i + 1))).length = 2 * ((upS dp e.ss k i)).length + 1 + 1 := by omega
             have h2b : 2 * ((upS dh e.ss k (i + 1))).length = 2 * ((upS dh e.ss k i)).length + 1 + 1 := by omega
             rw [← hsA, ← hsB, ← h2a, ← h2b, ← hla1, ← hlb1]
             refine hK23 _ ?_
             refine dl ?_
             refine aa rfl (a8 rfl (by constructor)) ?_
             refine e7 (fun hs => ?_) (fun hs => ?_)
             ·have z1 := hs
              refine aa rfl (a8 rfl (by constructor)) ?_
              refine di rfl ?_
              refine di rfl ?_
              refine di rfl ?_
              refine di rfl ?_
              first | refine aa rfl (bg rfl rfl (by constructor)) ?_ | refine aa rfl (cd rfl rfl (by constructor)) ?_ | refine aa rfl (dz rfl rfl rfl rfl) ?_ | refine aa rfl (dx rfl rfl rfl rfl) ?_
              refine aa rfl (a8 rfl (by constructor)) ?_
              refine di rfl ?_
              refine di rfl ?_
              refine di rfl ?_
              refine di rfl ?_
              first | refine aa rfl (bg rfl rfl (by constructor)) ?_ | refine aa rfl (cd rfl rfl (by constructor)) ?_ | refine aa rfl (dz rfl rfl rfl rfl) ?_ | refine aa rfl (dx rfl rfl rfl rfl) ?_
              refine aa rfl (cg rfl (by constructor)) ?_
              refine cx ?_
              dsimp only [St.put]
              refine hK19 _ ?_
              refine dl ?_
              first | refine aa rfl (bw rfl rfl rfl (by omega)) ?_ | refine aa rfl (ib rfl rfl rfl) ?_
              refine aa rfl (a8 rfl (by constructor)) ?_
              refine cx ?_
              dsimp only [St.put]
              first
               | exact ⟨(i + 1, true), by (dsimp only; omega), ⟨by (dsimp only; omega), (htw.trans (jw z1)).symm⟩, ⟨⟨rfl, rfl⟩, zF, zB, zN, zX⟩⟩
               | exact ⟨(i + 1, true), by (dsimp only; omega), ⟨by (dsimp only; omega), (htw.trans (jv z2)).symm⟩, ⟨⟨rfl, rfl⟩, zF, zB, zN, zX⟩⟩
               | exact ⟨(i + 1, true), by (dsimp only; omega), ⟨by (dsimp only; omega), (htw.trans (ju z3)).symm⟩, ⟨⟨rfl, rfl⟩, zF, zB, zN, zX⟩⟩
               | exact ⟨(i + 1, false), by (dsimp only; omega), ⟨by (dsimp only; omega), (htw.trans (twF z1 z2 z3)).symm⟩, ⟨⟨rfl, rfl⟩, zF, zB, zN, zX⟩⟩
             ·have z1 := hs
              refine aa rfl (a8 rfl (by constructor)) ?_
              refine aa rfl (a8 rfl (by constructor)) ?_
              try dsimp only [St.put]
              first | refine af rfl (a7 rfl rfl) ?_ | refine af rfl (aq rfl rfl (Enc.len _)) ?_ | refine af rfl (aq rfl rfl rfl) ?_ | refine af rfl (dd rfl rfl zG trivial (by first | rfl | assumption)) ?_ | refine af rfl (dc rfl rfl zG trivial (by rfl)) ?_ | refine af rfl (ep rfl rfl zG trivial (by simp)) ?_ | refine af rfl (bx rfl rfl zG trivial (em (by assumption) rfl)) ?_ | refine af rfl (bx rfl rfl zG trivial (by assumption)) ?_ | refine af rfl (ei rfl rfl zG trivial rfl (by assumption) rfl (by decide)) ?_ | refine af rfl (eo rfl rfl zG (by rfl)) ?_
              try dsimp only [St.put]
              refine af rfl (kf (α := Int × Int) (c := .v (.int .i64 (((upS dp e.ss k (i + 1))).count (s.ch, s.fr + (i : Int)) : Int))) (s.ch, s.fr + (i : Int)) rfl rfl zG (by intro _ _ h; exact h.1) trivial rfl (g7 _ _)) ?_
              refine aa rfl (gz rfl rfl rfl) ?_
              refine e7 (fun hs => ?_) (fun hs => ?_)
              ·have z2 := hs
               first | refine aa rfl (bg rfl rfl (by constructor)) ?_ | refine aa rfl (cd rfl rfl (by constructor)) ?_ | refine aa rfl (dz rfl rfl rfl rfl) ?_ | refine aa rfl (dx rfl rfl rfl rfl) ?_
               refine aa rfl (a8 rfl (by constructor)) ?_
               refine di rfl ?_
               refine di rfl ?_
               refine di rfl ?_
               refine di rfl ?_
               first | refine aa rfl (bg rfl rfl (by constructor)) ?_ | refine aa rfl (cd rfl rfl (by constructor)) ?_ | refine aa rfl (dz rfl rfl rfl rfl) ?_ | refine aa rfl (dx rfl rfl rfl rfl) ?_
               refine aa rfl (cg rfl (by constructor)) ?_
               refine cx ?_
               dsimp only [St.put]
               refine hK19 _ ?_
               refine dl ?_
               first | refine aa rfl (bw rfl rfl rfl (by omega)) ?_ | refine aa rfl (ib rfl rfl rfl) ?_
               refine aa rfl (a8 rfl (by constructor)) ?_
               refine cx ?_
               dsimp only [St.put]
               first
                | exact ⟨(i + 1, true), by (dsimp only; omega), ⟨by (dsimp only; omega), (htw.trans (jw z1)).symm⟩, ⟨⟨rfl, rfl⟩, zF, zB, zN, zX⟩⟩
                | exact ⟨(i + 1, true), by (dsimp only; omega), ⟨by (dsimp only; omega), (htw.trans (jv z2)).symm⟩, ⟨⟨rfl, rfl⟩, zF, zB, zN, zX⟩⟩
                | exact ⟨(i + 1, true), by (dsimp only; omega), ⟨by (dsimp only; omega), (htw.trans (ju z3)).symm⟩, ⟨⟨rfl, rfl⟩, zF, zB, zN, zX⟩⟩
                | exact ⟨(i + 1, false), by (dsimp only; omega), ⟨by (dsimp only; omega), (htw.trans (twF z1 z2 z3)).symm⟩, ⟨⟨rfl, rfl⟩, zF, zB, zN, zX⟩⟩
              ·have z2 := hs
               first | refine aa rfl (bg rfl rfl (by constructor)) ?_ | refine aa rfl (cd rfl rfl (by constructor)) ?_ | refine aa rfl (dz rfl rfl rfl rfl) ?_ | refine aa rfl (dx rfl rfl rfl rfl) ?_
               refine aa rfl (a8 rfl (by constructor)) ?_
               refine aa rfl (a8 rfl (by constructor)) ?_
               try dsimp only [St.put]
               first | refine af rfl (a7 rfl rfl) ?_ | refine af rfl (aq rfl rfl (Enc.len _)) ?_ | refine af rfl (aq rfl rfl rfl) ?_ | refine af rfl (dd rfl rfl zG trivial (by first | rfl | assumption)) ?_ | refine af rfl (dc rfl rfl zG trivial (by rfl)) ?_ | refine af rfl (ep rfl rfl zG trivial (by simp)) ?_ | refine af rfl (bx rfl rfl zG trivial (em (by assumption) rfl)) ?_ | refine af rfl (bx rfl rfl zG trivial (by assumption)) ?_ | refine af rfl (ei rfl rfl zG trivial rfl (by assumption) rfl (by decide)) ?_ | refine af rfl (eo rfl rfl zG (by rfl)) ?_
               try dsimp only [St.put]
               refine af rfl (kf (α := Int × Int) (c := .v (.int .i64 (((upS dh e.ss k (i + 1))).count (s.au, s.fi + (i : Int)) : Int))) (s.au, s.fi + (i : Int)) rfl rfl zG (by intro _ _ h; exact h.1) trivial rfl (g7 _ _)) ?_
               refine aa rfl (gz rfl rfl rfl) ?_
               refine e7 (fun hs => ?_) (fun hs => ?_)
               ·have z3 := hs
                first | refine aa rfl (bg rfl rfl (by constructor)) ?_ | refine aa rfl (cd rfl rfl (by constructor)) ?_ | refine aa rfl (dz rfl rfl rfl rfl) ?_ | refine aa rfl (dx rfl rfl rfl rfl) ?_
                refine aa rfl (cg rfl (by constructor)) ?_
                refine cx ?_
                dsimp only [St.put]
                refine hK19 _ ?_
                refine dl ?_
                first | refine aa rfl (bw rfl rfl rfl (by omega)) ?_ | refine aa rfl (ib rfl rfl rfl) ?_
                refine aa rfl (a8 rfl (by constructor)) ?_
                refine cx ?_
                dsimp only [St.put]
                first
                 | exact ⟨(i + 1, true), by (dsimp only; omega), ⟨by (dsimp only; omega), (htw.trans (jw z1)).symm⟩, ⟨⟨rfl, rfl⟩, zF, zB, zN, zX⟩⟩
                 | exact ⟨(i + 1, true), by (dsimp only; omega), ⟨by (dsimp only; omega), (htw.trans (jv z2)).symm⟩, ⟨⟨rfl, rfl⟩, zF, zB, zN, zX⟩⟩
                 | exact ⟨(i + 1, true), by (dsimp only; omega), ⟨by (dsimp only; omega), (htw.trans (ju z3)).symm⟩, ⟨⟨rfl, rfl⟩, zF, zB, zN, zX⟩⟩
                 | exact ⟨(i + 1, false), by (dsimp only; omega), ⟨by (dsimp only; omega), (htw.trans (twF z1 z2 z3)).symm⟩, ⟨⟨rfl, rfl⟩, zF, zB, zN, zX⟩⟩
               ·have z3 := hs
                first | refine aa rfl (bg rfl rfl (by constructor)) ?_ | refine aa rfl (cd rfl rfl (by constructor)) ?_ | refine aa rfl (dz rfl rfl rfl rfl) ?_ | refine aa rfl (dx rfl rfl rfl rfl) ?_
                refine aa rfl (cg rfl (by constructor)) ?_
                refine cx ?_
                dsimp only [St.put]
                refine hK19 _ ?_
                refine dl ?_
                first | refine aa rfl (bw rfl rfl rfl (by omega)) ?_ | refine aa rfl (ib rfl rfl rfl) ?_
                refine aa rfl (a8 rfl (by constructor)) ?_
                refine cx ?_
                dsimp only [St.put]
                first
                 | exact ⟨(i + 1, true), by (dsimp only; omega), ⟨by (dsimp only; omega), (htw.trans (jw z1)).symm⟩, ⟨⟨rfl, rfl⟩, zF, zB, zN, zX⟩⟩
                 | exact ⟨(i + 1, true), by (dsimp only; omega), ⟨by (dsimp only; omega), (htw.trans (jv z2)).symm⟩, ⟨⟨rfl, rfl⟩, zF, zB, zN, zX⟩⟩
                 | exact ⟨(i + 1, true), by (dsimp only; omega), ⟨by (dsimp only; omega), (htw.trans (ju z3)).symm⟩, ⟨⟨rfl, rfl⟩, zF, zB, zN, zX⟩⟩
                 | exact ⟨(i + 1, false), by (dsimp only; omega), ⟨by (dsimp only; omega), (htw.trans (twF z1 z2 z3)).symm⟩, ⟨⟨rfl, rfl⟩, zF, zB, zN, zX⟩⟩
            exact bj
           exact bj
          refine bc ?_ ?_
          ·try dsimp only [St.put]
           refine br rfl rfl rfl (qc (α := Int × Int) (c := .v (.int .i64 (((upS dh e.ss k i)).count (s.au, s.fi + (i : Int)) : Int))) (s.au, s.fi + (i : Int)) rfl rfl zG rfl (by omega) (g7 _ _) rfl (fun sn => ?_))
           refine cq [(5, none)] (fun i => [5].contains i) 3 [true, true, false, false, true, true, false] (by kernel_rfl) ?_
           refine ah rfl rfl rfl rfl (c7 rfl rfl rfl) ?_
           refine bu ?_
           refine bk [2] (by kernel_rfl) (by simp) ?_
           refine bc ?_ ?_
           ·try dsimp only [St.put]
            refine qi rfl rfl rfl (kf (α := Int × Int) (c := .v (.int .i64 (((upS dh e.ss k i)).count (s.au, s.fi + (i : Int)) : Int))) (s.au, s.fi + (i : Int)) rfl rfl zG (by intro _ _ h; exact h.1) trivial rfl ((by first | exact g7 _ _ | (simp only [f7, if_true]; exact g7 _ _) | simp [f7]))) ?_
            refine cq [(3, none)] (fun i => [3].contains i) 1 [true, true, true, true, true, true, false] (by kernel_rfl) ?_
            first | refine ah rfl rfl rfl rfl (bw rfl rfl rfl (by omega)) ?_ | refine ah rfl rfl rfl rfl (ib rfl rfl rfl) ?_
            refine bu ?_
            refine bk [6] (by kernel_rfl) (by simp) ?_
            refine bc ?_ ?_
            ·try dsimp only [St.put]
             refine br rfl rfl rfl (qd (α := Int × Int) (s := sn) (s.au, s.fi + (i : Int)) rfl rfl rfl zG rfl (qf _ _ _) ?_)
             dsimp only [St.put]
             refine gk (by kernel_rfl) ?_
             have hla1 : ((upS dp e.ss k i) ++ [(s.ch, s.fr + (i : Int))]).length = ((upS dp e.ss k i)).length + 1 := by simp
             have hlb1 : ((upS dh e.ss k i) ++ [(s.au, s.fi + (i : Int))]).length = ((upS dh e.ss k i)).length + 1 := by simp
             rw [← hsA] at hla1
             rw [← hsB] at hlb1
             have h2a : 2 * ((upS dp e.ss k (i + 1))).length = 2 * ((upS dp e.ss k i)).length + 1 + 1 := by omega
             have h2b : 2 * ((upS dh e.ss k (i + 1))).length = 2 * ((upS dh e.ss k i)).length + 1 + 1 := by omega
             rw [← hsA, ← hsB, ← h2a, ← h2b, ← hla1, ← hlb1]
             refine hK23 _ ?_
             refine dl ?_
             refine aa rfl (a8 rfl (by constructor)) ?_
             refine e7 (fun hs => ?_) (fun hs => ?_)
             ·have z1 := hs
              refine aa rfl (a8 rfl (by constructor)) ?_
              refine di rfl ?_
              refine di rfl ?_
              refine di rfl ?_
              refine di rfl ?_
              first | refine aa rfl (bg rfl rfl (by constructor)) ?_ | refine aa rfl (cd rfl rfl (by constructor)) ?_ | refine aa rfl (dz rfl rfl rfl rfl) ?_ | refine aa rfl (dx rfl rfl rfl rfl) ?_
              refine aa rfl (a8 rfl (by constructor)) ?_
              refine di rfl ?_
              refine di rfl ?_
              refine di rfl ?_
              refine di rfl ?_
              first | refine aa rfl (bg rfl rfl (by constructor)) ?_ | refine aa rfl (cd rfl rfl (by constructor)) ?_ | refine aa rfl (dz rfl rfl rfl rfl) ?_ | refine aa rfl (dx rfl rfl rfl rfl) ?_
              refine aa rfl (cg rfl (by constructor)) ?_
              refine cx ?_
              dsimp only [St.put]
              refine hK19 _ ?_
              refine dl ?_
              first | refine aa rfl (bw rfl rfl rfl (by omega)) ?_ | refine aa rfl (ib rfl rfl rfl) ?_
              refine aa rfl (a8 rfl (by constructor)) ?_
              refine cx ?_
              dsimp only [St.put]
              first
               | exact ⟨(i + 1, true), by (dsimp only; omega), ⟨by (dsimp only; omega), (htw.trans (jw z1)).symm⟩, ⟨⟨rfl, rfl⟩, zF, zB, zN, zX⟩⟩
               | exact ⟨(i + 1, true), by (dsimp only; omega), ⟨by (dsimp only; omega), (htw.trans (jv z2)).symm⟩, ⟨⟨rfl, rfl⟩, zF, zB, zN, zX⟩⟩
               | exact ⟨(i + 1, true), by (dsimp only; omega), ⟨by (dsimp only; omega), (htw.trans (ju z3)).symm⟩, ⟨⟨rfl, rfl⟩, zF, zB, zN, zX⟩⟩
               | exact ⟨(i + 1, false), by (dsimp only; omega), ⟨by (dsimp only; omega), (htw.trans (twF z1 z2 z3)).symm⟩, ⟨⟨rfl, rfl⟩, zF, zB, zN, zX⟩⟩
             ·have z1 := hs
              refine aa rfl (a8 rfl (by constructor)) ?_
              refine aa rfl (a8 rfl (by constructor)) ?_
              try dsimp only [St.put]
              first | refine af rfl (a7 rfl rfl) ?_ | refine af rfl (aq rfl rfl (Enc.len _)) ?_ | refine af rfl (aq rfl rfl rfl) ?_ | refine af rfl (dd rfl rfl zG trivial (by first | rfl | assumption)) ?_ | refine af rfl (dc rfl rfl zG trivial (by rfl)) ?_ | refine af rfl (ep rfl rfl zG trivial (by simp)) ?_ | refine af rfl (bx rfl rfl zG trivial (em (by assumption) rfl)) ?_ | refine af rfl (bx rfl rfl zG trivial (by assumption)) ?_ | refine af rfl (ei rfl rfl zG trivial rfl (by assumption) rfl (by decide)) ?_ | refine af rfl (eo rfl rfl zG (by rfl)) ?_
              try dsimp only [St.put]
              refine af rfl (kf (α := Int × Int) (c := .v (.int .i64 (((upS dp e.ss k (i + 1))).count (s.ch, s.fr + (i : Int)) : Int))) (s.ch, s.fr + (i : Int)) rfl rfl zG (by intro _ _ h; exact h.1) trivial rfl (g7 _ _)) ?_
              refine aa rfl (gz rfl rfl rfl) ?_
              refine e7 (fun hs => ?_) (fun hs => ?_)
              ·have z2 := hs
               first | refine aa rfl (bg rfl rfl (by constructor)) ?_ | refine aa rfl (cd rfl rfl (by constructor)) ?_ | refine aa rfl (dz rfl rfl rfl rfl) ?_ | refine aa rfl (dx rfl rfl rfl rfl) ?_
               refine aa rfl (a8 rfl (by constructor)) ?_
               refine di rfl ?_
               refine di rfl ?_
               refine di rfl ?_
               refine di rfl ?_
               first | refine aa rfl (bg rfl rfl (by constructor)) ?_ | refine aa rfl (cd rfl rfl (by constructor)) ?_ | refine aa rfl (dz rfl rfl rfl rfl) ?_ | refine aa rfl (dx rfl rfl rfl rfl) ?_
               refine aa rfl (cg rfl (by constructor)) ?_
               refine cx ?_
               dsimp only [St.put]
               refine hK19 _ ?_
               refine dl ?_
               first | refine aa rfl (bw rfl rfl rfl (by omega)) ?_ | refine aa rfl (ib rfl rfl rfl) ?_
               refine aa rfl (a8 rfl (by constructor)) ?_
               refine cx ?_
               dsimp only [St.put]
               first
                | exact ⟨(i + 1, true), by (dsimp only; omega), ⟨by (dsimp only; omega), (htw.trans (jw z1)).symm⟩, ⟨⟨rfl, rfl⟩, zF, zB, zN, zX⟩⟩
                | exact ⟨(i + 1, true), by (dsimp only; omega), ⟨by (dsimp only; omega), (htw.trans (jv z2)).symm⟩, ⟨⟨rfl, rfl⟩, zF, zB, zN, zX⟩⟩
                | exact ⟨(i + 1, true), by (dsimp only; omega), ⟨by (dsimp only; omega), (htw.trans (ju z3)).symm⟩, ⟨⟨rfl, rfl⟩, zF, zB, zN, zX⟩⟩
                | exact ⟨(i + 1, false), by (dsimp only; omega), ⟨by (dsimp only; omega), (htw.trans (twF z1 z2 z3)).symm⟩, ⟨⟨rfl, rfl⟩, zF, zB, zN, zX⟩⟩
              ·have z2 := hs
               first | refine aa rfl (bg rfl rfl (by constructor)) ?_ | refine aa rfl (cd rfl rfl (by constructor)) ?_ | refine aa rfl (dz rfl rfl rfl rfl) ?_ | refine aa rfl (dx rfl rfl rfl rfl) ?_
               refine aa rfl (a8 rfl (by constructor)) ?_
               refine aa rfl (a8 rfl (by constructor)) ?_
               try dsimp only [St.put]
               first | refine af rfl (a7 rfl rfl) ?_ | refine af rfl (aq rfl rfl (Enc.len _)) ?_ | refine af rfl (aq rfl rfl rfl) ?_ | refine af rfl (dd rfl rfl zG trivial (by first | rfl | assumption)) ?_ | refine af rfl (dc rfl rfl zG trivial (by rfl)) ?_ | refine af rfl (ep rfl rfl zG trivial (by simp)) ?_ | refine af rfl (bx rfl rfl zG trivial (em (by assumption) rfl)) ?_ | refine af rfl (bx rfl rfl zG trivial (by assumption)) ?_ | refine af rfl (ei rfl rfl zG trivial rfl (by assumption) rfl (by decide)) ?_ | refine af rfl (eo rfl rfl zG (by rfl)) ?_
               try dsimp only [St.put]
               refine af rfl (kf (α := Int × Int) (c := .v (.int .i64 (((upS dh e.ss k (i + 1))).count (s.au, s.fi + (i : Int)) : Int))) (s.au, s.fi + (i : Int)) rfl rfl zG (by intro _ _ h; exact h.1) trivial rfl (g7 _ _)) ?_
               refine aa rfl (gz rfl rfl rfl) ?_
               refine e7 (fun hs => ?_) (fun hs => ?_)
               ·have z3 := hs
                first | refine aa rfl (bg rfl rfl (by constructor)) ?_ | refine aa rfl (cd rfl rfl (by constructor)) ?_ | refine aa rfl (dz rfl rfl rfl rfl) ?_ | refine aa rfl (dx rfl rfl rfl rfl) ?_
                refine aa rfl (cg rfl (by constructor)) ?_
                refine cx ?_
                dsimp only [St.put]
                refine hK19 _ ?_
                refine dl ?_
                first | refine aa rfl (bw rfl rfl rfl (by omega)) ?_ | refine aa rfl (ib rfl rfl rfl) ?_
                refine aa rfl (a8 rfl (by constructor)) ?_
                refine cx ?_
                dsimp only [St.put]
                first
                 | exact ⟨(i + 1, true), by (dsimp only; omega), ⟨by (dsimp only; omega), (htw.trans (jw z1)).symm⟩, ⟨⟨rfl, rfl⟩, zF, zB, zN, zX⟩⟩
                 | exact ⟨(i + 1, true), by (dsimp only; omega), ⟨by (dsimp only; omega), (htw.trans (jv z2)).symm⟩, ⟨⟨rfl, rfl⟩, zF, zB, zN, zX⟩⟩
                 | exact ⟨(i + 1, true), by (dsimp only; omega), ⟨by (dsimp only; omega), (htw.trans (ju z3)).symm⟩, ⟨⟨rfl, rfl⟩, zF, zB, zN, zX⟩⟩
                 | exact ⟨(i + 1, false), by (dsimp only; omega), ⟨by (dsimp only; omega), (htw.trans (twF z1 z2 z3)).symm⟩, ⟨⟨rfl, rfl⟩, zF, zB, zN, zX⟩⟩
               ·have z3 := hs
                first | refine aa rfl (bg rfl rfl (by constructor)) ?_ | refine aa rfl (cd rfl rfl (by constructor)) ?_ | refine aa rfl (dz rfl rfl rfl rfl) ?_ | refine aa rfl (dx rfl rfl rfl rfl) ?_
                refine aa rfl (cg rfl (by constructor)) ?_
                refine cx ?_
                dsimp only [St.put]
                refine hK19 _ ?_
                refine dl ?_
                first | refine aa rfl (bw rfl rfl rfl (by omega)) ?_ | refine aa rfl (ib rfl rfl rfl) ?_
                refine aa rfl (a8 rfl (by constructor)) ?_
                refine cx ?_
                dsimp only [St.put]
                first
                 | exact ⟨(i + 1, true), by (dsimp only; omega), ⟨by (dsimp only; omega), (htw.trans (jw z1)).symm⟩, ⟨⟨rfl, rfl⟩, zF, zB, zN, zX⟩⟩
                 | exact ⟨(i + 1, true), by (dsimp only; omega), ⟨by (dsimp only; omega), (htw.trans (jv z2)).symm⟩, ⟨⟨rfl, rfl⟩, zF, zB, zN, zX⟩⟩
                 | exact ⟨(i + 1, true), by (dsimp only; omega), ⟨by (dsimp only; omega), (htw.trans (ju z3)).symm⟩, ⟨⟨rfl, rfl⟩, zF, zB, zN, zX⟩⟩
                 | exact ⟨(i + 1, false), by (dsimp only; omega), ⟨by (dsimp only; omega), (htw.trans (twF z1 z2 z3)).symm⟩, ⟨⟨rfl, rfl⟩, zF, zB, zN, zX⟩⟩
            exact bj
           exact bj
          exact bj
         exact bj
        exact bj
       refine bc ?_ ?_
       ·try dsimp only [St.put]
        refine br rfl rfl rfl (qc (α := Int × Int) (c := .v (.int .i64 (((upS dp e.ss k i)).count (s.ch, s.fr + (i : Int)) : Int))) (s.ch, s.fr + (i : Int)) rfl rfl zG rfl (by omega) (g7 _ _) rfl (fun sn => ?_))
        refine cq [(5, none)] (fun i => [5].contains i) 3 [true, true, false, false, true, true, false] (by kernel_rfl) ?_
        refine ah rfl rfl rfl rfl (c7 rfl rfl rfl) ?_
        refine bu ?_
        refine bk [2] (by kernel_rfl) (by simp) ?_
        refine bc ?_ ?_
        ·try dsimp only [St.put]
         refine qi rfl rfl rfl (kf (α := Int × Int) (c := .v (.int .i64 (((upS dp e.ss k i)).count (s.ch, s.fr + (i : Int)) : Int))) (s.ch, s.fr + (i : Int)) rfl rfl zG (by intro _ _ h; exact h.1) trivial rfl ((by first | exact g7 _ _ | (simp only [f7, if_true]; exact g7 _ _) | simp [f7]))) ?_
         refine cq [(3, none)] (fun i => [3].contains i) 1 [true, true, true, true, true, true, false] (by kernel_rfl) ?_
         first | refine ah rfl rfl rfl rfl (bw rfl rfl rfl (by omega)) ?_ | refine ah rfl rfl rfl rfl (ib rfl rfl rfl) ?_
         refine bu ?_
         refine bk [6] (by kernel_rfl) (by simp) ?_
         refine bc ?_ ?_
         ·try dsimp only [St.put]
          refine br rfl rfl rfl (qd (α := Int × Int) (s := sn) (s.ch, s.fr + (i : Int)) rfl rfl rfl zG rfl (qf _ _ _) ?_)
          dsimp only [St.put]
          refine gk (by kernel_rfl) ?_
          refine hK22 _ ?_
          refine e8 fun K24 hK24 => ?_
          refine la [(0, none), (1, none)] (fun _ => false) (fun i => [0].contains i) 5 [true, true, false, false, false, false, false] (by kernel_rfl) (by kernel_rfl) ?_
          refine ah rfl rfl rfl rfl (a8 rfl (by constructor)) ?_
          try dsimp only [St.put]
          first | refine aj rfl rfl rfl rfl (a7 rfl rfl) ?_ | refine aj rfl rfl rfl rfl (aq rfl rfl (Enc.len _)) ?_ | refine aj rfl rfl rfl rfl (aq rfl rfl rfl) ?_ | refine aj rfl rfl rfl rfl (dd rfl rfl zG (by simp) (by first | rfl | assumption)) ?_ | refine aj rfl rfl rfl rfl (dc rfl rfl zG (by simp) (by rfl)) ?_ | refine aj rfl rfl rfl rfl (ep rfl rfl zG (by simp) (by simp)) ?_ | refine aj rfl rfl rfl rfl (bx rfl rfl zG (by simp) (em (by assumption) rfl)) ?_ | refine aj rfl rfl rfl rfl (bx rfl rfl zG (by simp) (by assumption)) ?_ | refine aj rfl rfl rfl rfl (ei rfl rfl zG (by simp) rfl (by assumption) rfl (by decide)) ?_ | refine aj rfl rfl rfl rfl (eo rfl rfl zG (by rfl)) ?_
          refine bu ?_
          refine bk [2, 4] (by kernel_rfl) (by simp) ?_
          refine bc ?_ ?_
          ·try dsimp only [St.put]
           refine qi rfl rfl rfl (kf (α := Int × Int) (c := .v (.int .i64 (((upS dh e.ss k i)).count (s.au, s.fi + (i : Int)) : Int))) (s.au, s.fi + (i : Int)) rfl rfl zG (by intro _ _ h; exact h.1) trivial rfl ((by first | exact g7 _ _ | (simp only [f7, if_true]; exact g7 _ _) | simp [f7]))) ?_
           refine cq [(3, none)] (fun i => [3].contains i) 3 [true, true, true, true, false, false, false] (by kernel_rfl) ?_
           first | refine ah rfl rfl rfl rfl (bw rfl rfl rfl (by omega)) ?_ | refine ah rfl rfl rfl rfl (ib rfl rfl rfl) ?_
           refine bu ?_
           refine bk [4] (by kernel_rfl) (by simp) ?_
           refine bc ?_ ?_
           ·try dsimp only [St.put]
            refine br rfl rfl rfl (qc (α := Int × Int) (c := .v (.int .i64 (((upS dh e.ss k i)).count (s.au, s.fi + (i : Int)) : Int))) (s.au, s.fi + (i : Int)) rfl rfl zG rfl (by omega) (g7 _ _) rfl (fun sn => ?_))
            refine cq [(5, none)] (fun i => [5].contains i) 1 [true, true, true, true, true, true, false] (by kernel_rfl) ?_
            refine ah rfl rfl rfl rfl (c7 rfl rfl rfl) ?_
            refine bu ?_
            refine bk [6] (by kernel_rfl) (by simp) ?_
            refine bc ?_ ?_
            ·try dsimp only [St.put]
             refine br rfl rfl rfl (qd (α := Int × Int) (s := sn) (s.au, s.fi + (i : Int)) rfl rfl rfl zG rfl (qf _ _ _) ?_)
             dsimp only [St.put]
             refine gk (by kernel_rfl) ?_
             have hla1 : ((upS dp e.ss k i) ++ [(s.ch, s.fr + (i : Int))]).length = ((upS dp e.ss k i)).length + 1 := by simp
             have hlb1 : ((upS dh e.ss k i) ++ [(s.au, s.fi + (i : Int))]).length = ((upS dh e.ss k i)).length + 1 := by simp
             rw [← hsA] at hla1
             rw [← hsB] at hlb1
             have h2a : 2 * ((upS dp e.ss k (i + 1))).length = 2 * ((upS dp e.ss k i)).length + 1 + 1 := by omega
             have h2b : 2 * ((upS dh e.ss k (i + 1))).length = 2 * ((upS dh e.ss k i)).length + 1 + 1 := by omega
             rw [← hsA, ← hsB, ← h2a, ← h2b, ← hla1, ← hlb1]
             refine hK24 _ ?_
             refine dl ?_
             refine aa rfl (a8 rfl (by constructor)) ?_
             refine e7 (fun hs => ?_) (fun hs => ?_)
             ·have z1 := hs
              refine aa rfl (a8 rfl (by constructor)) ?_
              refine di rfl ?_
              refine di rfl ?_
              refine di rfl ?_
              refine di rfl ?_
              first | refine aa rfl (bg rfl rfl (by constructor)) ?_ | refine aa rfl (cd rfl rfl (by constructor)) ?_ | refine aa rfl (dz rfl rfl rfl rfl) ?_ | refine aa rfl (dx rfl rfl rfl rfl) ?_
              refine aa rfl (a8 rfl (by constructor)) ?_
              refine di rfl ?_
              refine di rfl ?_
              refine di rfl ?_
              refine di rfl ?_
              first | refine aa rfl (bg rfl rfl (by constructor)) ?_ | refine aa rfl (cd rfl rfl (by constructor)) ?_ | refine aa rfl (dz rfl rfl rfl rfl) ?_ | refine aa rfl (dx rfl rfl rfl rfl) ?_
              refine aa rfl (cg rfl (by constructor)) ?_
              refine cx ?_
              dsimp only [St.put]
              refine hK19 _ ?_
              refine dl ?_
              first | refine aa rfl (bw rfl rfl rfl (by omega)) ?_ | refine aa rfl (ib rfl rfl rfl) ?_
              refine aa rfl (a8 rfl (by constructor)) ?_
              refine cx ?_
              dsimp only [St.put]
              first
               | exact ⟨(i + 1, true), by (dsimp only; omega), ⟨by (dsimp only; omega), (htw.trans (jw z1)).symm⟩, ⟨⟨rfl, rfl⟩, zF, zB, zN, zX⟩⟩
               | exact ⟨(i + 1, true), by (dsimp only; omega), ⟨by (dsimp only; omega), (htw.trans (jv z2)).symm⟩, ⟨⟨rfl, rfl⟩, zF, zB, zN, zX⟩⟩
               | exact ⟨(i + 1, true), by (dsimp only; omega), ⟨by (dsimp only; omega), (htw.trans (ju z3)).symm⟩, ⟨⟨rfl, rfl⟩, zF, zB, zN, zX⟩⟩
               | exact ⟨(i + 1, false), by (dsimp only; omega), ⟨by (dsimp only; omega), (htw.trans (twF z1 z2 z3)).symm⟩, ⟨⟨rfl, rfl⟩, zF, zB, zN, zX⟩⟩
             ·have z1 := hs
              refine aa rfl (a8 rfl (by constructor)) ?_
              refine aa rfl (a8 rfl (by constructor)) ?_
              try dsimp only [St.put]
              first | refine af rfl (a7 rfl rfl) ?_ | refine af rfl (aq rfl rfl (Enc.len _)) ?_ | refine af rfl (aq rfl rfl rfl) ?_ | refine af rfl (dd rfl rfl zG trivial (by first | rfl | assumption)) ?_ | refine af rfl (dc rfl rfl zG trivial (by rfl)) ?_ | refine af rfl (ep rfl rfl zG trivial (by simp)) ?_ | refine af rfl (bx rfl rfl zG trivial (em (by assumption) rfl)) ?_ | refine af rfl (bx rfl rfl zG trivial (by assumption)) ?_ | refine af rfl (ei rfl rfl zG trivial rfl (by assumption) rfl (by decide)) ?_ | refine af rfl (eo rfl rfl zG (by rfl)) ?_
              try dsimp only [St.put]
              refine af rfl (kf (α := Int × Int) (c := .v (.int .i64 (((upS dp e.ss k (i + 1))).count (s.ch, s.fr + (i : Int)) : Int))) (s.ch, s.fr + (i : Int)) rfl rfl zG (by intro _ _ h; exact h.1) trivial rfl (g7 _ _)) ?_
              refine aa rfl (gz rfl rfl rfl) ?_
              refine e7 (fun hs => ?_) (fun hs => ?_)
              ·have z2 := hs
               first | refine aa rfl (bg rfl rfl (by constructor)) ?_ | refine aa rfl (cd rfl rfl (by constructor)) ?_ | refine aa rfl (dz rfl rfl rfl rfl) ?_ | refine aa rfl (dx rfl rfl rfl rfl) ?_
               refine aa rfl (a8 rfl (by constructor)) ?_
               refine di rfl ?_
               refine di rfl ?_
               refine di rfl ?_
               refine di rfl ?_
               first | refine aa rfl (bg rfl rfl (by constructor)) ?_ | refine aa rfl (cd rfl rfl (by constructor)) ?_ | refine aa rfl (dz rfl rfl rfl rfl) ?_ | refine aa rfl (dx rfl rfl rfl rfl) ?_
               refine aa rfl (cg rfl (by constructor)) ?_
               refine cx ?_
               dsimp only [St.put]
               refine hK19 _ ?_
               refine dl ?_
               first | refine aa rfl (bw rfl rfl rfl (by omega)) ?_ | refine aa rfl (ib rfl rfl rfl) ?_
               refine aa rfl (a8 rfl (by constructor)) ?_
               refine cx ?_
               dsimp only [St.put]
               first
                | exact ⟨(i + 1, true), by (dsimp only; omega), ⟨by (dsimp only; omega), (htw.trans (jw z1)).symm⟩, ⟨⟨rfl, rfl⟩, zF, zB, zN, zX⟩⟩
                | exact ⟨(i + 1, true), by (dsimp only; omega), ⟨by (dsimp only; omega), (htw.trans (jv z2)).symm⟩, ⟨⟨rfl, rfl⟩, zF, zB, zN, zX⟩⟩
                | exact ⟨(i + 1, true), by (dsimp only; omega), ⟨by (dsimp only; omega), (htw.trans (ju z3)).symm⟩, ⟨⟨rfl, rfl⟩, zF, zB, zN, zX⟩⟩
                | exact ⟨(i + 1, false), by (dsimp only; omega), ⟨by (dsimp only; omega), (htw.trans (twF z1 z2 z3)).symm⟩, ⟨⟨rfl, rfl⟩, zF, zB, zN, zX⟩⟩
              ·have z2 := hs
               first | refine aa rfl (bg rfl rfl (by constructor)) ?_ | refine aa rfl (cd rfl rfl (by constructor)) ?_ | refine aa rfl (dz rfl rfl rfl rfl) ?_ | refine aa rfl (dx rfl rfl rfl rfl) ?_
               refine aa rfl (a8 rfl (by constructor)) ?_
               refine aa rfl (a8 rfl (by constructor)) ?_
               try dsimp only [St.put]
               first | refine af rfl (a7 rfl rfl) ?_ | refine af rfl (aq rfl rfl (Enc.len _)) ?_ | refine af rfl (aq rfl rfl rfl) ?_ | refine af rfl (dd rfl rfl zG trivial (by first | rfl | assumption)) ?_ | refine af rfl (dc rfl rfl zG trivial (by rfl)) ?_ | refine af rfl (ep rfl rfl zG trivial (by simp)) ?_ | refine af rfl (bx rfl rfl zG trivial (em (by assumption) rfl)) ?_ | refine af rfl (bx rfl rfl zG trivial (by assumption)) ?_ | refine af rfl (ei rfl rfl zG trivial rfl (by assumption) rfl (by decide)) ?_ | refine af rfl (eo rfl rfl zG (by rfl)) ?_
               try dsimp only [St.put]
               refine af rfl (kf (α := Int × Int) (c := .v (.int .i64 (((upS dh e.ss k (i + 1))).count (s.au, s.fi + (i : Int)) : Int))) (s.au, s.fi + (i : Int)) rfl rfl zG (by intro _ _ h; exact h.1) trivial rfl (g7 _ _)) ?_
               refine aa rfl (gz rfl rfl rfl) ?_
               refine e7 (fun hs => ?_) (fun hs => ?_)
               ·have z3 := hs
                first | refine aa rfl (bg rfl rfl (by constructor)) ?_ | refine aa rfl (cd rfl rfl (by constructor)) ?_ | refine aa rfl (dz rfl rfl rfl rfl) ?_ | refine aa rfl (dx rfl rfl rfl rfl) ?_
                refine aa rfl (cg rfl (by constructor)) ?_
                refine cx ?_
                dsimp only [St.put]
                refine hK19 _ ?_
                refine dl ?_
                first | refine aa rfl (bw rfl rfl rfl (by omega)) ?_ | refine aa rfl (ib rfl rfl rfl) ?_
                refine aa rfl (a8 rfl (by constructor)) ?_
                refine cx ?_
                dsimp only [St.put]
                first
                 | exact ⟨(i + 1, true), by (dsimp only; omega), ⟨by (dsimp only; omega), (htw.trans (jw z1)).symm⟩, ⟨⟨rfl, rfl⟩, zF, zB, zN, zX⟩⟩
                 | exact ⟨(i + 1, true), by (dsimp only; omega), ⟨by (dsimp only; omega), (htw.trans (jv z2)).symm⟩, ⟨⟨rfl, rfl⟩, zF, zB, zN, zX⟩⟩
                 | exact ⟨(i + 1, true), by (dsimp only; omega), ⟨by (dsimp only; omega), (htw.trans (ju z3)).symm⟩, ⟨⟨rfl, rfl⟩, zF, zB, zN, zX⟩⟩
                 | exact ⟨(i + 1, false), by (dsimp only; omega), ⟨by (dsimp only; omega), (htw.trans (twF z1 z2 z3)).symm⟩, ⟨⟨rfl, rfl⟩, zF, zB, zN, zX⟩⟩
               ·have z3 := hs
                first | refine aa rfl (bg rfl rfl (by constructor)) ?_ | refine aa rfl (cd rfl rfl (by constructor)) ?_ | refine aa rfl (dz rfl rfl rfl rfl) ?_ | refine aa rfl (dx rfl rfl rfl rfl) ?_
                refine aa rfl (cg rfl (by constructor)) ?_
                refine cx ?_
                dsimp only [St.put]
                refine hK19 _ ?_
                refine dl ?_
                first | refine aa rfl (bw rfl rfl rfl (by omega)) ?_ | refine aa rfl (ib rfl rfl rfl) ?_
                refine aa rfl (a8 rfl (by constructor)) ?_
                refine cx ?_
                dsimp only [St.put]
                first
                 | exact ⟨(i + 1, true), by (dsimp only; omega), ⟨by (dsimp only; omega), (htw.trans (jw z1)).symm⟩, ⟨⟨rfl, rfl⟩, zF, zB, zN, zX⟩⟩
                 | exact ⟨(i + 1, true), by (dsimp only; omega), ⟨by (dsimp only; omega), (htw.trans (jv z2)).symm⟩, ⟨⟨rfl, rfl⟩, zF, zB, zN, zX⟩⟩
                 | exact ⟨(i + 1, true), by (dsimp only; omega), ⟨by (dsimp only; omega), (htw.trans (ju z3)).symm⟩, ⟨⟨rfl, rfl⟩, zF, zB, zN, zX⟩⟩
                 | exact ⟨(i + 1, false), by (dsimp only; omega), ⟨by (dsimp only; omega), (htw.trans (twF z1 z2 z3)).symm⟩, ⟨⟨rfl, rfl⟩, zF, zB, zN, zX⟩⟩
            exact bj
           exact bj
          refine bc ?_ ?_
          ·try dsimp only [St.put]
           refine br rfl rfl rfl (qc (α := Int × Int) (c := .v (.int .i64 (((upS dh e.ss k i)).count (s.au, s.fi + (i : Int)) : Int))) (s.au, s.fi + (i : Int)) rfl rfl zG rfl (by omega) (g7 _ _) rfl (fun sn => ?_))
           refine cq [(5, none)] (fun i => [5].contains i) 3 [true, true, false, false, true, true, false] (by kernel_rfl) ?_
           refine ah rfl rfl rfl rfl (c7 rfl rfl rfl) ?_
           refine bu ?_
           refine bk [2] (by kernel_rfl) (by simp) ?_
           refine bc ?_ ?_
           ·try dsimp only [St.put]
            refine qi rfl rfl rfl (kf (α := Int × Int) (c := .v (.int .i64 (((upS dh e.ss k i)).count (s.au, s.fi + (i : Int)) : Int))) (s.au, s.fi + (i : Int)) rfl rfl zG (by intro _ _ h; exact h.1) trivial rfl ((by first | exact g7 _ _ | (simp only [f7, if_true]; exact g7 _ _) | simp [f7]))) ?_
            refine cq [(3, none)] (fun i => [3].contains i) 1 [true, true, true, true, true, true, false] (by kernel_rfl) ?_
            first | refine ah rfl rfl rfl rfl (bw rfl rfl rfl (by omega)) ?_ | refine ah rfl rfl rfl rfl (ib rfl rfl rfl) ?_
            refine bu ?_
            refine bk [6] (by kernel_rfl) (by simp) ?_
            refine bc ?_ ?_
            ·try dsimp only [St.put]
             refine br rfl rfl rfl (qd (α := Int × Int) (s := sn) (s.au, s.fi + (i : Int)) rfl rfl rfl zG rfl (qf _ _ _) ?_)
             dsimp only [St.put]
             refine gk (by kernel_rfl) ?_
             have hla1 : ((upS dp e.ss k i) ++ [(s.ch, s.fr + (i : Int))]).length = ((upS dp e.ss k i)).length + 1 := by simp
             have hlb1 : ((upS dh e.ss k i) ++ [(s.au, s.fi + (i : Int))]).length = ((upS dh e.ss k i)).length + 1 := by simp
             rw [← hsA] at hla1
             rw [← hsB] at hlb1
             have h2a : 2 * ((upS dp e.ss k (i + 1))).length = 2 * ((upS dp e.ss k i)).length + 1 + 1 := by omega
             have h2b : 2 * ((upS dh e.ss k (i + 1))).length = 2 * ((upS dh e.ss k i)).length + 1 + 1 := by omega
             rw [← hsA, ← hsB, ← h2a, ← h2b, ← hla1, ← hlb1]
             refine hK24 _ ?_
             refine dl ?_
             refine aa rfl (a8 rfl (by constructor)) ?_
             refine e7 (fun hs => ?_) (fun hs => ?_)
             ·have z1 := hs
              refine aa rfl (a8 rfl (by constructor)) ?_
              refine di rfl ?_
              refine di rfl ?_
              refine di rfl ?_
              refine di rfl ?_
              first | refine aa rfl (bg rfl rfl (by constructor)) ?_ | refine aa rfl (cd rfl rfl (by constructor)) ?_ | refine aa rfl (dz rfl rfl rfl rfl) ?_ | refine aa rfl (dx rfl rfl rfl rfl) ?_
              refine aa rfl (a8 rfl (by constructor)) ?_
              refine di rfl ?_
              refine di rfl ?_
              refine di rfl ?_
              refine di rfl ?_
              first | refine aa rfl (bg rfl rfl (by constructor)) ?_ | refine aa rfl (cd rfl rfl (by constructor)) ?_ | refine aa rfl (dz rfl rfl rfl rfl) ?_ | refine aa rfl (dx rfl rfl rfl rfl) ?_
              refine aa rfl (cg rfl (by constructor)) ?_
              refine cx ?_
              dsimp only [St.put]
              refine hK19 _ ?_
              refine dl ?_
              first | refine aa rfl (bw rfl rfl rfl (by omega)) ?_ | refine aa rfl (ib rfl rfl rfl) ?_
              refine aa rfl (a8 rfl (by constructor)) ?_
              refine cx ?_
              dsimp only [St.put]
              first
               | exact ⟨(i + 1, true), by (dsimp only; omega), ⟨by (dsimp only; omega), (htw.trans (jw z1)).symm⟩, ⟨⟨rfl, rfl⟩, zF, zB, zN, zX⟩⟩
               | exact ⟨(i + 1, true), by (dsimp only; omega), ⟨by (dsimp only; omega), (htw.trans (jv z2)).symm⟩, ⟨⟨rfl, rfl⟩, zF, zB, zN, zX⟩⟩
               | exact ⟨(i + 1, true), by (dsimp only; omega), ⟨by (dsimp only; omega), (htw.trans (ju z3)).symm⟩, ⟨⟨rfl, rfl⟩, zF, zB, zN, zX⟩⟩
               | exact ⟨(i + 1, false), by (dsimp only; omega), ⟨by (dsimp only; omega), (htw.trans (twF z1 z2 z3)).symm⟩, ⟨⟨rfl, rfl⟩, zF, zB, zN, zX⟩⟩
             ·have z1 := hs
              refine aa rfl (a8 rfl (by constructor)) ?_
              refine aa rfl (a8 rfl (by constructor)) ?_
              try dsimp only [St.put]
              first | refine af rfl (a7 rfl rfl) ?_ | refine af rfl (aq rfl rfl (Enc.len _)) ?_ | refine af rfl (aq rfl rfl rfl) ?_ | refine af rfl (dd rfl rfl zG trivial (by first | rfl | assumption)) ?_ | refine af rfl (dc rfl rfl zG trivial (by rfl)) ?_ | refine af rfl (ep rfl rfl zG trivial (by simp)) ?_ | refine af rfl (bx rfl rfl zG trivial (em (by assumption) rfl)) ?_ | refine af rfl (bx rfl rfl zG trivial (by assumption)) ?_ | refine af rfl (ei rfl rfl zG trivial rfl (by assumption) rfl (by decide)) ?_ | refine af rfl (eo rfl rfl zG (by rfl)) ?_
              try dsimp only [St.put]
              refine af rfl (kf (α := Int × Int) (c := .v (.int .i64 (((upS dp e.ss k (i + 1))).count (s.ch, s.fr + (i : Int)) : Int))) (s.ch, s.fr + (i : Int)) rfl rfl zG (by intro _ _ h; exact h.1) trivial rfl (g7 _ _)) ?_
              refine aa rfl (gz rfl rfl rfl) ?_
              refine e7 (fun hs => ?_) (fun hs => ?_)
              ·have z2 := hs
               first | refine aa rfl (bg rfl rfl (by constructor)) ?_ | refine aa rfl (cd rfl rfl (by constructor)) ?_ | refine aa rfl (dz rfl rfl rfl rfl) ?_ | refine aa rfl (dx rfl rfl rfl rfl) ?_
               refine aa rfl (a8 rfl (by constructor)) ?_
               refine di rfl ?_
               refine di rfl ?_
               refine di rfl ?_
               refine di rfl ?_
               first | refine aa rfl (bg rfl rfl (by constructor)) ?_ | refine aa rfl (cd rfl rfl (by constructor)) ?_ | refine aa rfl (dz rfl rfl rfl rfl) ?_ | refine aa rfl (dx rfl rfl rfl rfl) ?_
               refine aa rfl (cg rfl (by constructor)) ?_
               refine cx ?_
               dsimp only [St.put]
               refine hK19 _ ?_
               refine dl ?_
               first | refine aa rfl (bw rfl rfl rfl (by omega)) ?_ | refine aa rfl (ib rfl rfl rfl) ?_
               refine aa rfl (a8 rfl (by constructor)) ?_
               refine cx ?_
               dsimp only [St.put]
               first
                | exact ⟨(i + 1, true), by (dsimp only; omega), ⟨by (dsimp only; omega), (htw.trans (jw z1)).symm⟩, ⟨⟨rfl, rfl⟩, zF, zB, zN, zX⟩⟩
                | exact ⟨(i + 1, true), by (dsimp only; omega), ⟨by (dsimp only; omega), (htw.trans (jv z2)).symm⟩, ⟨⟨rfl, rfl⟩, zF, zB, zN, zX⟩⟩
                | exact ⟨(i + 1, true), by (dsimp only; omega), ⟨by (dsimp only; omega), (htw.trans (ju z3)).symm⟩, ⟨⟨rfl, rfl⟩, zF, zB, zN, zX⟩⟩
                | exact ⟨(i + 1, false), by (dsimp only; omega), ⟨by (dsimp only; omega), (htw.trans (twF z1 z2 z3)).symm⟩, ⟨⟨rfl, rfl⟩, zF, zB, zN, zX⟩⟩
              ·have z2 := hs
               first | refine aa rfl (bg rfl rfl (by constructor)) ?_ | refine aa rfl (cd rfl rfl (by constructor)) ?_ | refine aa rfl (dz rfl rfl rfl rfl) ?_ | refine aa rfl (dx rfl rfl rfl rfl) ?_
               refine aa rfl (a8 rfl (by constructor)) ?_
               refine aa rfl (a8 rfl (by constructor)) ?_
               try dsimp only [St.put]
               first | refine af rfl (a7 rfl rfl) ?_ | refine af rfl (aq rfl rfl (Enc.len _)) ?_ | refine af rfl (aq rfl rfl rfl) ?_ | refine af rfl (dd rfl rfl zG trivial (by first | rfl | assumption)) ?_ | refine af rfl (dc rfl rfl zG trivial (by rfl)) ?_ | refine af rfl (ep rfl rfl zG trivial (by simp)) ?_ | refine af rfl (bx rfl rfl zG trivial (em (by assumption) rfl)) ?_ | refine af rfl (bx rfl rfl zG trivial (by assumption)) ?_ | refine af rfl (ei rfl rfl zG trivial rfl (by assumption) rfl (by decide)) ?_ | refine af rfl (eo rfl rfl zG (by rfl)) ?_
               try dsimp only [St.put]
               refine af rfl (kf (α := Int × Int) (c := .v (.int .i64 (((upS dh e.ss k (i + 1))).count (s.au, s.fi + (i : Int)) : Int))) (s.au, s.fi + (i : Int)) rfl rfl zG (by intro _ _ h; exact h.1) trivial rfl (g7 _ _)) ?_
               refine aa rfl (gz rfl rfl rfl) ?_
               refine e7 (fun hs => ?_) (fun hs => ?_)
               ·have z3 := hs
                first | refine aa rfl (bg rfl rfl (by constructor)) ?_ | refine aa rfl (cd rfl rfl (by constructor)) ?_ | refine aa rfl (dz rfl rfl rfl rfl) ?_ | refine aa rfl (dx rfl rfl rfl rfl) ?_
                refine aa rfl (cg rfl (by constructor)) ?_
                refine cx ?_
                dsimp only [St.put]
                refine hK19 _ ?_
                refine dl ?_
                first | refine aa rfl (bw rfl rfl rfl (by omega)) ?_ | refine aa rfl (ib rfl rfl rfl) ?_
                refine aa rfl (a8 rfl (by constructor)) ?_
                refine cx ?_
                dsimp only [St.put]
                first
                 | exact ⟨(i + 1, true), by (dsimp only; omega), ⟨by (dsimp only; omega), (htw.trans (jw z1)).symm⟩, ⟨⟨rfl, rfl⟩, zF, zB, zN, zX⟩⟩
                 | exact ⟨(i + 1, true), by (dsimp only; omega), ⟨by (dsimp only; omega), (htw.trans (jv z2)).symm⟩, ⟨⟨rfl, rfl⟩, zF, zB, zN, zX⟩⟩
                 | exact ⟨(i + 1, true), by (dsimp only; omega), ⟨by (dsimp only; omega), (htw.trans (ju z3)).symm⟩, ⟨⟨rfl, rfl⟩, zF, zB, zN, zX⟩⟩
                 | exact ⟨(i + 1, false), by (dsimp only; omega), ⟨by (dsimp only; omega), (htw.trans (twF z1 z2 z3)).symm⟩, ⟨⟨rfl, rfl⟩, zF, zB, zN, zX⟩⟩
               ·have z3 := hs
                first | refine aa rfl (bg rfl rfl (by constructor)) ?_ | refine aa rfl (cd rfl rfl (by constructor)) ?_ | refine aa rfl (dz rfl rfl rfl rfl) ?_ | refine aa rfl (dx rfl rfl rfl rfl) ?_
                refine aa rfl (cg rfl (by constructor)) ?_
                refine cx ?_
                dsimp only [St.put]
                refine hK19 _ ?_
                refine dl ?_
                first | refine aa rfl (bw rfl rfl rfl (by omega)) ?_ | refine aa rfl (ib rfl rfl rfl) ?_
                refine aa rfl (a8 rfl (by constructor)) ?_
                refine cx ?_
                dsimp only [St.put]
                first
                 | exact ⟨(i + 1, true), by (dsimp only; omega), ⟨by (dsimp only; omega), (htw.trans (jw z1)).symm⟩, ⟨⟨rfl, rfl⟩, zF, zB, zN, zX⟩⟩
                 | exact ⟨(i + 1, true), by (dsimp only; omega), ⟨by (dsimp only; omega), (htw.trans (jv z2)).symm⟩, ⟨⟨rfl, rfl⟩, zF, zB, zN, zX⟩⟩
                 | exact ⟨(i + 1, true), by (dsimp only; omega), ⟨by (dsimp only; omega), (htw.trans (ju z3)).symm⟩, ⟨⟨rfl, rfl⟩, zF, zB, zN, zX⟩⟩
                 | exact ⟨(i + 1, false), by (dsimp only; omega), ⟨by (dsimp only; omega), (htw.trans (twF z1 z2 z3)).symm⟩, ⟨⟨rfl, rfl⟩, zF, zB, zN, zX⟩⟩
            exact bj
           exact bj
          exact bj
         exact bj
        exact bj
       exact bj
      ·replace hc := of_decide_eq_false hc
       obtain rfl : i = lnN s := by omega
       refine ey ?_
       refine hK14 _ ?_
       refine dl ?_
       first | refine aa rfl (bw rfl rfl rfl (by omega)) ?_ | refine aa rfl (ib rfl rfl rfl) ?_
       refine aa rfl (a8 rfl (by constructor)) ?_
       refine cx ?_
       dsimp only [St.put]
       rw [sa hx (Nat.le_of_eq hnA), sa hx (Nat.le_of_eq hnB)]
       exact ⟨(k + 1, b2), by (dsimp only; omega), ⟨by (dsimp only; omega), by rw [← sa hx (Nat.le_of_eq hnA), ← sa hx (Nat.le_of_eq hnB)]; exact hJ.2⟩, ⟨⟨rfl, rfl⟩, zF, zB, zN, zX⟩⟩
    ·replace hc := of_decide_eq_false hc
     obtain rfl : k = e.ss.length := by omega
     have htw0 : b = (ef e.ss).isSome := by rw [hI.2, yf, yf]; exact ud7 hok
     refine ey ?_
     refine hK10 _ ?_
     refine e8 fun K25 hK25 => ?_
     refine dl ?_
     try dsimp only [St.put]
     first | refine af rfl (a7 rfl rfl) ?_ | refine af rfl (aq rfl rfl (Enc.len _)) ?_ | refine af rfl (aq rfl rfl rfl) ?_ | refine af rfl (dd rfl rfl zG trivial (by first | rfl | assumption)) ?_ | refine af rfl (dc rfl rfl zG trivial (by rfl)) ?_ | refine af rfl (ep rfl rfl zG trivial (by simp)) ?_ | refine af rfl (bx rfl rfl zG trivial (em (by assumption) rfl)) ?_ | refine af rfl (bx rfl rfl zG trivial (by assumption)) ?_ | refine af rfl (ei rfl rfl zG trivial rfl (by assumption) rfl (by decide)) ?_ | refine af rfl (eo rfl rfl zG (by rfl)) ?_
     try dsimp only [St.put]
     first | refine af rfl (a7 rfl rfl) ?_ | refine af rfl (aq rfl rfl (Enc.len _)) ?_ | refine af rfl (aq rfl rfl rfl) ?_ | refine af rfl (dd rfl rfl zG trivial (by first | rfl | assumption)) ?_ | refine af rfl (dc rfl rfl zG trivial (by rfl)) ?_ | refine af rfl (ep rfl rfl zG trivial (by simp)) ?_ | refine af rfl (bx rfl rfl zG trivial (em (by assumption) rfl)) ?_ | refine af rfl (bx rfl rfl zG trivial (by assumption)) ?_ | refine af rfl (ei rfl rfl zG trivial rfl (by assumption) rfl (by decide)) ?_ | refine af rfl (eo rfl rfl zG (by rfl)) ?_
     try dsimp only [St.put]
     first | refine af rfl (a7 rfl rfl) ?_ | refine af rfl (aq rfl rfl (Enc.len _)) ?_ | refine af rfl (aq rfl rfl rfl) ?_ | refine af rfl (dd rfl rfl zG trivial (by first | rfl | assumption)) ?_ | refine af rfl (dc rfl rfl zG trivial (by rfl)) ?_ | refine af rfl (ep rfl rfl zG trivial (by simp)) ?_ | refine af rfl (bx rfl rfl zG trivial (em (by assumption) rfl)) ?_ | refine af rfl (bx rfl rfl zG trivial (by assumption)) ?_ | refine af rfl (ei rfl rfl zG trivial rfl (by assumption) rfl (by decide)) ?_ | refine af rfl (eo rfl rfl zG (by rfl)) ?_
     try dsimp only [St.put]
     refine ae rfl (eb rfl rfl rfl (hrf) zG ?_)
     refine aa rfl (a8 rfl (by constructor)) ?_
     refine aa rfl (c7 rfl rfl rfl) ?_
     refine aa rfl (c7 rfl rfl rfl) ?_
     try dsimp only [St.put]
     refine ae rfl (bp rfl ?_)
     try dsimp only [St.put]
     first | refine ae rfl (ay rfl rfl rfl zG rfl rfl (by rfl) ?_) | refine ae rfl (lq rfl rfl rfl zG (by constructor) rfl (by first | (simp; done) | (simp; omega) | exact Nat.lt_of_lt_of_eq (by decide) (Enc.len _).symm) ?_)
     refine aa rfl (cg rfl (by constructor)) ?_
     refine cx ?_
     dsimp only [St.put]
     refine hK25 _ ?_
     refine dg (i := 19) rfl zG (by first | exact List.cons_ne_nil _ _ | (simp; done) | (simp [putAt]; done)) ?_
     dsimp only
     refine e8 fun K26 hK26 => ?_
     refine e8 fun K27 hK27 => ?_
     refine dl ?_
     refine aa rfl (a8 rfl (by constructor)) ?_
     refine aa rfl (dt rfl rfl rfl) ?_
     refine cx ?_
     dsimp only [St.put]
     refine hK27 _ ?_
     refine al rfl (fun hc => ?_) (fun hc => ?_)
     ·replace hc := ny hc
      obtain ⟨q1, q2, q3, q4, q5⟩ := uk1 h0 (by rw [hce]; exact hc) p
      obtain rfl : ce = 6 := hce.symm.trans q2
      obtain rfl : ca = 0 := hca.symm.trans q3
      obtain rfl : cb = 0 := hcb.symm.trans q4
      obtain rfl : b = false := by rw [htw0, q1]; rfl
      rw [hfe] at q5
      refine e8 fun K28 hK28 => ?_
      refine dl ?_
      refine aa rfl (a8 rfl (by constructor)) ?_
      refine aa rfl (a8 rfl (by constructor)) ?_
      refine aa rfl (a8 rfl (by constructor)) ?_
      refine aa rfl (bt (g3 rfl rfl rfl) (decide_eq_true (by omega))) ?_
      first | refine aa rfl (bg rfl rfl (by constructor)) ?_ | refine aa rfl (cd rfl rfl (by constructor)) ?_ | refine aa rfl (dz rfl rfl rfl rfl) ?_ | refine aa rfl (dx rfl rfl rfl rfl) ?_
      refine aa rfl (a8 rfl (by constructor)) ?_
      refine aa rfl (a8 rfl (by constructor)) ?_
      refine aa rfl (bt (g3 rfl rfl rfl) (decide_eq_true (by omega))) ?_
      first | refine aa rfl (bg rfl rfl (by constructor)) ?_ | refine aa rfl (cd rfl rfl (by constructor)) ?_ | refine aa rfl (dz rfl rfl rfl rfl) ?_ | refine aa rfl (dx rfl rfl rfl rfl) ?_
      refine aa rfl (a8 rfl (by constructor)) ?_
      refine aa rfl (a8 rfl (by constructor)) ?_
      refine aa rfl (bt (g3 rfl rfl rfl) (decide_eq_true (by omega))) ?_
      first | refine aa rfl (bg rfl rfl (by constructor)) ?_ | refine aa rfl (cd rfl rfl (by constructor)) ?_ | refine aa rfl (dz rfl rfl rfl rfl) ?_ | refine aa rfl (dx rfl rfl rfl rfl) ?_
      refine aa rfl (a8 rfl (by constructor)) ?_
      refine aa rfl (a8 rfl (by constructor)) ?_
      refine aa rfl (dn rfl rfl) ?_
      first | refine aa rfl (bg rfl rfl (by constructor)) ?_ | refine aa rfl (cd rfl rfl (by constructor)) ?_ | refine aa rfl (dz rfl rfl rfl rfl) ?_ | refine aa rfl (dx rfl rfl rfl rfl) ?_
      refine aa rfl (a8 rfl (by constructor)) ?_
      refine aa rfl (a8 rfl (by constructor)) ?_
      refine aa rfl (bt (dt rfl rfl rfl) (kh (by omega))) ?_
      first | refine aa rfl (bg rfl rfl (by constructor)) ?_ | refine aa rfl (cd rfl rfl (by constructor)) ?_ | refine aa rfl (dz rfl rfl rfl rfl) ?_ | refine aa rfl (dx rfl rfl rfl rfl) ?_
      refine aa rfl (cg rfl (by constructor)) ?_
      refine cx ?_
      dsimp only [St.put]
      refine hK28 _ ?_
      refine am ?_
      refine bf rfl (by constructor) zN zS ?_
      rfl
     ·replace hc := li hc
      obtain ⟨m1, m2, x, y, hf, q2, q3, q4, hx, hy, hxy, q5⟩ := ukx h0 (by rw [hce]; exact hc) p
      obtain rfl : ce = 0 := hc
      obtain rfl : ca = (m1 : Int) := hca.symm.trans q2
      obtain rfl : cb = (m2 : Int) := hcb.symm.trans q3
      obtain rfl : fe = 8 := hfe.symm.trans q5
      obtain rfl : b = true := by rw [htw0, hf]; rfl
      have hm2 : m2 < e.ss.length := (List.getElem?_eq_some_iff.1 hy).1
      have hm1 : m1 < e.ss.length := by omega
      have hxm := gr hx
      have hym := gr hy
      obtain ⟨w1, w2, w3⟩ := uky h0 hxm hym hxy
      have v1 := uk0 h0 hxm
      have v2 := ukz h0 hl12 hf
      have c1 := t7 t ⟨e.id, [x, y]⟩ (by simp)
      have c2 := t7 t ⟨e.id, [x]⟩ (by simp)
      have c3 := t7 t ⟨e.id, e.ss.take m1⟩ (by simp; omega)
      rw [w1, w2, w3] at c1
      rw [v1] at c2
      rw [v2] at c3
      refine aw ?_
      refine hK26 _ ?_
      refine e8 fun K29 hK29 => ?_
      refine e8 fun K30 hK30 => ?_
      refine dl ?_
      refine aa rfl (a8 rfl (by constructor)) ?_
      refine aa rfl (dn rfl rfl) ?_
      refine aa rfl (a8 rfl (by constructor)) ?_
      refine aa rfl (a8 rfl (by constructor)) ?_
      refine aa rfl (bt (cr rfl rfl rfl) (decide_eq_false (by omega))) ?_
      first | refine aa rfl (bg rfl rfl (by constructor)) ?_ | refine aa rfl (cd rfl rfl (by constructor)) ?_ | refine aa rfl (dz rfl rfl rfl rfl) ?_ | refine aa rfl (dx rfl rfl rfl rfl) ?_
      refine aa rfl (a8 rfl (by constructor)) ?_
      refine aa rfl (a8 rfl (by constructor)) ?_
      refine aa rfl (a8 rfl (by constructor)) ?_
      refine aa rfl (bt (sx rfl rfl rfl) (decide_eq_false (by omega))) ?_
      first | refine aa rfl (bg rfl rfl (by constructor)) ?_ | refine aa rfl (cd rfl rfl (by constructor)) ?_ | refine aa rfl (dz rfl rfl rfl rfl) ?_ | refine aa rfl (dx rfl rfl rfl rfl) ?_
      refine aa rfl (a8 rfl (by constructor)) ?_
      refine aa rfl (a8 rfl (by constructor)) ?_
      first | refine aa rfl (b9 rfl rfl rfl) ?_ | refine aa rfl (ge rfl rfl) ?_
      try dsimp only [St.put]
      first | refine af rfl (a7 rfl rfl) ?_ | refine af rfl (aq rfl rfl (Enc.len _)) ?_ | refine af rfl (aq rfl rfl rfl) ?_ | refine af rfl (dd rfl rfl zG trivial (by first | rfl | assumption)) ?_ | refine af rfl (dc rfl rfl zG trivial (by rfl)) ?_ | refine af rfl (ep rfl rfl zG trivial (by simp)) ?_ | refine af rfl (bx rfl rfl zG trivial (em (by assumption) rfl)) ?_ | refine af rfl (bx rfl rfl zG trivial (by assumption)) ?_ | refine af rfl (ei rfl rfl zG trivial rfl (by assumption) rfl (by decide)) ?_ | refine af rfl (eo rfl rfl zG (by rfl)) ?_
      first | refine aa rfl (ck rfl rfl (List.length_map _)) ?_ | refine aa rfl (ck rfl rfl rfl) ?_ | refine aa rfl (py rfl rfl) ?_ | refine aa rfl (uab rfl rfl) ?_ | refine aa rfl (oq rfl rfl) ?_ | refine aa rfl (vk rfl rfl (by omega)) ?_
      refine aa rfl (bt (m9 rfl rfl rfl) (decide_eq_false (by omega))) ?_
      first | refine aa rfl (bg rfl rfl (by constructor)) ?_ | refine aa rfl (cd rfl rfl (by constructor)) ?_ | refine aa rfl (dz rfl rfl rfl rfl) ?_ | refine aa rfl (dx rfl rfl rfl rfl) ?_
      refine aa rfl (a8 rfl (by constructor)) ?_
      refine aa rfl (a8 rfl (by constructor)) ?_
      refine aa rfl (bt (dt rfl rfl rfl) (mq (by omega))) ?_
      first | refine aa rfl (bg rfl rfl (by constructor)) ?_ | refine aa rfl (cd rfl rfl (by constructor)) ?_ | refine aa rfl (dz rfl rfl rfl rfl) ?_ | refine aa rfl (dx rfl rfl rfl rfl) ?_
      refine cx ?_
      dsimp only [St.put]
      refine hK30 _ ?_
      refine al rfl (fun h => by cases h) (fun _ => ?_)
      refine aw ?_
      refine hK29 _ ?_
      refine e8 fun K31 hK31 => ?_
      refine gj [(0, none), (1, none), (2, some 3), (4, none), (5, none)] (fun i => [5].contains i) (fun i => [2, 3, 4, 5].contains i) (fun i => [].contains i) [] (by kernel_rfl) (by kernel_rfl) ?_
      try dsimp only [St.put]
      first | refine aj rfl rfl rfl rfl (a7 rfl rfl) ?_ | refine aj rfl rfl rfl rfl (aq rfl rfl (Enc.len _)) ?_ | refine aj rfl rfl rfl rfl (aq rfl rfl rfl) ?_ | refine aj rfl rfl rfl rfl (dd rfl rfl zG (by simp) (by first | rfl | assumption)) ?_ | refine aj rfl rfl rfl rfl (dc rfl rfl zG (by simp) (by rfl)) ?_ | refine aj rfl rfl rfl rfl (ep rfl rfl zG (by simp) (by simp)) ?_ | refine aj rfl rfl rfl rfl (bx rfl rfl zG (by simp) (em (by assumption) rfl)) ?_ | refine aj rfl rfl rfl rfl (bx rfl rfl zG (by simp) (by assumption)) ?_ | refine aj rfl rfl rfl rfl (ei rfl rfl zG (by simp) rfl (by assumption) rfl (by decide)) ?_ | refine aj rfl rfl rfl rfl (eo rfl rfl zG (by rfl)) ?_
      try dsimp only [St.put]
      first | refine aj rfl rfl rfl rfl (a7 rfl rfl) ?_ | refine aj rfl rfl rfl rfl (aq rfl rfl (Enc.len _)) ?_ | refine aj rfl rfl rfl rfl (aq rfl rfl rfl) ?_ | refine aj rfl rfl rfl rfl (dd rfl rfl zG (by simp) (by first | rfl | assumption)) ?_ | refine aj rfl rfl rfl rfl (dc rfl rfl zG (by simp) (by rfl)) ?_ | refine aj rfl rfl rfl rfl (ep rfl rfl zG (by simp) (by simp)) ?_ | refine aj rfl rfl rfl rfl (bx rfl rfl zG (by simp) (em (by assumption) rfl)) ?_ | refine aj rfl rfl rfl rfl (bx rfl rfl zG (by simp) (by assumption)) ?_ | refine aj rfl rfl rfl rfl (ei rfl rfl zG (by simp) rfl (by assumption) rfl (by decide)) ?_ | refine aj rfl rfl rfl rfl (eo rfl rfl zG (by rfl)) ?_
      refine il ?_
      refine ub rfl rfl rfl rfl rfl rfl rfl rfl (by decide) (by simp) ?_
      try dsimp only [St.put]
      first | refine jl rfl rfl rfl (ay rfl rfl rfl zG rfl rfl (by rfl) ⟨zD, ?_⟩) | refine jl rfl rfl rfl (lq rfl rfl rfl zG (by constructor) rfl (by first | (simp; done) | (simp; omega) | exact Nat.lt_of_lt_of_eq (by decide) (Enc.len _).symm) ⟨zD, ?_⟩)
      try dsimp only [St.put]
      first | refine gn rfl rfl rfl rfl (ay rfl rfl rfl zG rfl rfl (by rfl) ?_) | refine gn rfl rfl rfl rfl (lq rfl rfl rfl zG (by constructor) rfl (by first | (simp; done) | (simp; omega) | exact Nat.lt_of_lt_of_eq (by decide) (Enc.len _).symm) ?_)
      refine ij ?_
      dsimp only [St.put]
      refine hK31 _ ?_
      refine e8 fun K32 hK32 => ?_
      refine gj [(0, none), (1, none), (2, none), (3, none), (4, none), (5, none), (6, none), (7, none), (8, none), (9, none), (10, none), (11, none), (12, none)] (fun i => [10, 12].contains i) (fun i => [10, 12].contains i) (fun i => [0, 2, 3, 5, 7, 8, 11].contains i) [] (by kernel_rfl) (by kernel_rfl) ?_
      first | refine ah rfl rfl rfl rfl (b9 rfl rfl rfl) ?_ | refine ah rfl rfl rfl rfl (ge rfl rfl) ?_
      try dsimp only [St.put]
      first | refine aj rfl rfl rfl rfl (a7 rfl rfl) ?_ | refine aj rfl rfl rfl rfl (aq rfl rfl (Enc.len _)) ?_ | refine aj rfl rfl rfl rfl (aq rfl rfl rfl) ?_ | refine aj rfl rfl rfl rfl (dd rfl rfl zG (by simp) (by first | rfl | assumption)) ?_ | refine aj rfl rfl rfl rfl (dc rfl rfl zG (by simp) (by rfl)) ?_ | refine aj rfl rfl rfl rfl (ep rfl rfl zG (by simp) (by simp)) ?_ | refine aj rfl rfl rfl rfl (bx rfl rfl zG (by simp) (em (by assumption) rfl)) ?_ | refine aj rfl rfl rfl rfl (bx rfl rfl zG (by simp) (by assumption)) ?_ | refine aj rfl rfl rfl rfl (ei rfl rfl zG (by simp) rfl (by assumption) rfl (by decide)) ?_ | refine aj rfl rfl rfl rfl (eo rfl rfl zG (by rfl)) ?_
      refine ah rfl rfl rfl rfl (a8 rfl (by constructor)) ?_
      try dsimp only [St.put]
      first | refine ah rfl rfl rfl rfl (b7 rfl rfl rfl rfl (cm (by assumption)) (Enc.len _)) ?_ | refine ah rfl rfl rfl rfl (b7 rfl rfl rfl rfl (by assumption) rfl) ?_ | refine ah rfl rfl rfl rfl (vl rfl rfl rfl (by first | exact we _ | exact rfl) (by omega)) ?_ | refine ah rfl rfl rfl rfl (b7 rfl rfl rfl (by omega) (cm (by assumption)) (Enc.len _)) ?_
      try dsimp only [St.put]
      first | refine aj rfl rfl rfl rfl (a7 rfl rfl) ?_ | refine aj rfl rfl rfl rfl (aq rfl rfl (Enc.len _)) ?_ | refine aj rfl rfl rfl rfl (aq rfl rfl rfl) ?_ | refine aj rfl rfl rfl rfl (dd rfl rfl zG (by simp) (by first | rfl | assumption)) ?_ | refine aj rfl rfl rfl rfl (dc rfl rfl zG (by simp) (by rfl)) ?_ | refine aj rfl rfl rfl rfl (ep rfl rfl zG (by simp) (by simp)) ?_ | refine aj rfl rfl rfl rfl (bx rfl rfl zG (by simp) (em (by assumption) rfl)) ?_ | refine aj rfl rfl rfl rfl (bx rfl rfl zG (by simp) (by assumption)) ?_ | refine aj rfl rfl rfl rfl (ei rfl rfl zG (by simp) rfl (by assumption) rfl (by decide)) ?_ | refine aj rfl rfl rfl rfl (eo rfl rfl zG (by rfl)) ?_
      first | refine ah rfl rfl rfl rfl (b9 rfl rfl rfl) ?_ | refine ah rfl rfl rfl rfl (ge rfl rfl) ?_
      try dsimp only [St.put]
      first | refine aj rfl rfl rfl rfl (a7 rfl rfl) ?_ | refine aj rfl rfl rfl rfl (aq rfl rfl (Enc.len _)) ?_ | refine aj rfl rfl rfl rfl (aq rfl rfl rfl) ?_ | refine aj rfl rfl rfl rfl (dd rfl rfl zG (by simp) (by first | rfl | assumption)) ?_ | refine aj rfl rfl rfl rfl (dc rfl rfl zG (by simp) (by rfl)) ?_ | refine aj rfl rfl rfl rfl (ep rfl rfl zG (by simp) (by simp)) ?_ | refine aj rfl rfl rfl rfl (bx rfl rfl zG (by simp) (em (by assumption) rfl)) ?_ | refine aj rfl rfl rfl rfl (bx rfl rfl zG (by simp) (by assumption)) ?_ | refine aj rfl rfl rfl rfl (ei rfl rfl zG (by simp) rfl (by assumption) rfl (by decide)) ?_ | refine aj rfl rfl rfl rfl (eo rfl rfl zG (by rfl)) ?_
      refine ah rfl rfl rfl rfl (a8 rfl (by constructor)) ?_
      try dsimp only [St.put]
      first | refine ah rfl rfl rfl rfl (b7 rfl rfl rfl rfl (cm (by assumption)) (Enc.len _)) ?_ | refine ah rfl rfl rfl rfl (b7 rfl rfl rfl rfl (by assumption) rfl) ?_ | refine ah rfl rfl rfl rfl (vl rfl rfl rfl (by first | exact we _ | exact rfl) (by omega)) ?_ | refine ah rfl rfl rfl rfl (b7 rfl rfl rfl (by omega) (cm (by assumption)) (Enc.len _)) ?_
      try dsimp only [St.put]
      first | refine aj rfl rfl rfl rfl (a7 rfl rfl) ?_ | refine aj rfl rfl rfl rfl (aq rfl rfl (Enc.len _)) ?_ | refine aj rfl rfl rfl rfl (aq rfl rfl rfl) ?_ | refine aj rfl rfl rfl rfl (dd rfl rfl zG (by simp) (by first | rfl | assumption)) ?_ | refine aj rfl rfl rfl rfl (dc rfl rfl zG (by simp) (by rfl)) ?_ | refine aj rfl rfl rfl rfl (ep rfl rfl zG (by simp) (by simp)) ?_ | refine aj rfl rfl rfl rfl (bx rfl rfl zG (by simp) (em (by assumption) rfl)) ?_ | refine aj rfl rfl rfl rfl (bx rfl rfl zG (by simp) (by assumption)) ?_ | refine aj rfl rfl rfl rfl (ei rfl rfl zG (by simp) rfl (by assumption) rfl (by decide)) ?_ | refine aj rfl rfl rfl rfl (eo rfl rfl zG (by rfl)) ?_
      refine il ?_
      try dsimp only [St.put]
      refine gn rfl rfl rfl rfl (c9 rfl rfl rfl (by decide) (by decide) zR (by decide) ?_)
      first | refine jk rfl rfl rfl rfl (b9 rfl rfl rfl) ?_ | refine jk rfl rfl rfl rfl (ge rfl rfl) ?_
      try dsimp only [St.put]
      first | refine gn rfl rfl rfl rfl (ay rfl rfl rfl zG rfl rfl (by rfl) ?_) | refine gn rfl rfl rfl rfl (lq rfl rfl rfl zG (by constructor) rfl (by first | (simp; done) | (simp; omega) | exact Nat.lt_of_lt_of_eq (by decide) (Enc.len _).symm) ?_)
      refine ij ?_
      dsimp only [St.put]
      refine hK32 _ ?_
      refine uc2 (nx + 1 + 1 + 1) _ [.v (.int .i64 e.id), lst [x, y]] zG zW ?_
      refine e8 fun K33 hK33 => ?_
      refine dl ?_
      first | refine aa rfl (b9 rfl rfl rfl) ?_ | refine aa rfl (ge rfl rfl) ?_
      try dsimp only [St.put]
      first | refine af rfl (a7 rfl rfl) ?_ | refine af rfl (aq rfl rfl (Enc.len _)) ?_ | refine af rfl (aq rfl rfl rfl) ?_ | refine af rfl (dd rfl rfl zG trivial (by first | rfl | assumption)) ?_ | refine af rfl (dc rfl rfl zG trivial (by rfl)) ?_ | refine af rfl (ep rfl rfl zG trivial (by simp)) ?_ | refine af rfl (bx rfl rfl zG trivial (em (by assumption) rfl)) ?_ | refine af rfl (bx rfl rfl zG trivial (by assumption)) ?_ | refine af rfl (ei rfl rfl zG trivial rfl (by assumption) rfl (by decide)) ?_ | refine af rfl (eo rfl rfl zG (by rfl)) ?_
      refine aa rfl (z7 (k := 1) (xs := [x, y]) rfl rfl rfl rfl (by simp)) ?_
      first | refine aa rfl (b9 rfl rfl rfl) ?_ | refine aa rfl (ge rfl rfl) ?_
      try dsimp only [St.put]
      refine ae rfl (lq (cs := cells e) rfl rfl rfl zG (by constructor) rfl (Nat.lt_of_lt_of_eq (show 0 + 1 < Enc.n av by decide) (Enc.len e).symm) ?_)
      refine cx ?_
      dsimp only [St.put]
      refine hK33 _ ?_
      refine dg (i := 21) rfl zG (by first | exact List.cons_ne_nil _ _ | (simp; done) | (simp [putAt]; done)) ?_
      dsimp only
      refine uc2 (nx + 1 + 1 + 1 + 1) _ [.v (.int .i64 e.id), lst [x]] zG zW ?_
      refine e8 fun K34 hK34 => ?_
      refine dl ?_
      try dsimp only [St.put]
      first | refine af rfl (a7 rfl rfl) ?_ | refine af rfl (aq rfl rfl (Enc.len _)) ?_ | refine af rfl (aq rfl rfl rfl) ?_ | refine af rfl (dd rfl rfl zG trivial (by first | rfl | assumption)) ?_ | refine af rfl (dc rfl rfl zG trivial (by rfl)) ?_ | refine af rfl (ep rfl rfl zG trivial (by simp)) ?_ | refine af rfl (bx rfl rfl zG trivial (em (by assumption) rfl)) ?_ | refine af rfl (bx rfl rfl zG trivial (by assumption)) ?_ | refine af rfl (ei rfl rfl zG trivial rfl (by assumption) rfl (by decide)) ?_ | refine af rfl (eo rfl rfl zG (by rfl)) ?_
      try dsimp only [St.put]
      first | refine af rfl (a7 rfl rfl) ?_ | refine af rfl (aq rfl rfl (Enc.len _)) ?_ | refine af rfl (aq rfl rfl rfl) ?_ | refine af rfl (dd rfl rfl zG trivial (by first | rfl | assumption)) ?_ | refine af rfl (dc rfl rfl zG trivial (by rfl)) ?_ | refine af rfl (ep rfl rfl zG trivial (by simp)) ?_ | refine af rfl (bx rfl rfl zG trivial (em (by assumption) rfl)) ?_ | refine af rfl (bx rfl rfl zG trivial (by assumption)) ?_ | refine af rfl (ei rfl rfl zG trivial rfl (by assumption) rfl (by decide)) ?_ | refine af rfl (eo rfl rfl zG (by rfl)) ?_
      try dsimp only [St.put]
      refine ae rfl (eb rfl rfl rfl (c1) zG ?_)
      refine aa rfl (a8 rfl (by constructor)) ?_
      refine aa rfl (c7 rfl rfl rfl) ?_
      refine aa rfl (c7 rfl rfl rfl) ?_
      refine aa rfl (c7 rfl rfl rfl) ?_
      refine aa rfl (cg rfl (by constructor)) ?_
      refine aa rfl (cg rfl (by constructor)) ?_
      refine aa rfl (cg rfl (by constructor)) ?_
      refine cx ?_
      dsimp only [St.put]
      refine hK34 _ ?_
      refine e8 fun K35 hK35 => ?_
      refine dl ?_
      try dsimp only [St.put]
      first | refine af rfl (a7 rfl rfl) ?_ | refine af rfl (aq rfl rfl (Enc.len _)) ?_ | refine af rfl (aq rfl rfl rfl) ?_ | refine af rfl (dd rfl rfl zG trivial (by first | rfl | assumption)) ?_ | refine af rfl (dc rfl rfl zG trivial (by rfl)) ?_ | refine af rfl (ep rfl rfl zG trivial (by simp)) ?_ | refine af rfl (bx rfl rfl zG trivial (em (by assumption) rfl)) ?_ | refine af rfl (bx rfl rfl zG trivial (by assumption)) ?_ | refine af rfl (ei rfl rfl zG trivial rfl (by assumption) rfl (by decide)) ?_ | refine af rfl (eo rfl rfl zG (by rfl)) ?_
      try dsimp only [St.put]
      first | refine af rfl (a7 rfl rfl) ?_ | refine af rfl (aq rfl rfl (Enc.len _)) ?_ | refine af rfl (aq rfl rfl rfl) ?_ | refine af rfl (dd rfl rfl zG trivial (by first | rfl | assumption)) ?_ | refine af rfl (dc rfl rfl zG trivial (by rfl)) ?_ | refine af rfl (ep rfl rfl zG trivial (by simp)) ?_ | refine af rfl (bx rfl rfl zG trivial (em (by assumption) rfl)) ?_ | refine af rfl (bx rfl rfl zG trivial (by assumption)) ?_ | refine af rfl (ei rfl rfl zG trivial rfl (by assumption) rfl (by decide)) ?_ | refine af rfl (eo rfl rfl zG (by rfl)) ?_
      try dsimp only [St.put]
      refine ae rfl (eb rfl rfl rfl (c2) zG ?_)
      refine aa rfl (a8 rfl (by constructor)) ?_
      refine aa rfl (c7 rfl rfl rfl) ?_
      refine aa rfl (c7 rfl rfl rfl) ?_
      refine aa rfl (c7 rfl rfl rfl) ?_
      refine aa rfl (cg rfl (by constructor)) ?_
      refine aa rfl (cg rfl (by constructor)) ?_
      refine aa rfl (cg rfl (by constructor)) ?_
      refine cx ?_
      dsimp only [St.put]
      refine hK35 _ ?_
      refine e8 fun K36 hK36 => ?_
      refine dl ?_
      first | refine aa rfl (b9 rfl rfl rfl) ?_ | refine aa rfl (ge rfl rfl) ?_
      try dsimp only [St.put]
      first | refine af rfl (a7 rfl rfl) ?_ | refine af rfl (aq rfl rfl (Enc.len _)) ?_ | refine af rfl (aq rfl rfl rfl) ?_ | refine af rfl (dd rfl rfl zG trivial (by first | rfl | assumption)) ?_ | refine af rfl (dc rfl rfl zG trivial (by rfl)) ?_ | refine af rfl (ep rfl rfl zG trivial (by simp)) ?_ | refine af rfl (bx rfl rfl zG trivial (em (by assumption) rfl)) ?_ | refine af rfl (bx rfl rfl zG trivial (by assumption)) ?_ | refine af rfl (ei rfl rfl zG trivial rfl (by assumption) rfl (by decide)) ?_ | refine af rfl (eo rfl rfl zG (by rfl)) ?_
      refine aa rfl (a8 rfl (by constructor)) ?_
      refine aa rfl (z7 (k := m1) (xs := e.ss) rfl rfl rfl rfl (by omega)) ?_
      first | refine aa rfl (b9 rfl rfl rfl) ?_ | refine aa rfl (ge rfl rfl) ?_
      try dsimp only [St.put]
      first | refine ae rfl (ay rfl rfl rfl zG rfl rfl (by rfl) ?_) | refine ae rfl (lq rfl rfl rfl zG (by constructor) rfl (by first | (simp; done) | (simp; omega) | exact Nat.lt_of_lt_of_eq (by decide) (Enc.len _).symm) ?_)
      refine cx ?_
      dsimp only [St.put]
      refine hK36 _ ?_
      refine e8 fun K37 hK37 => ?_
      refine dl ?_
      try dsimp only [St.put]
      first | refine af rfl (a7 rfl rfl) ?_ | refine af rfl (aq rfl rfl (Enc.len _)) ?_ | refine af rfl (aq rfl rfl rfl) ?_ | refine af rfl (dd rfl rfl zG trivial (by first | rfl | assumption)) ?_ | refine af rfl (dc rfl rfl zG trivial (by rfl)) ?_ | refine af rfl (ep rfl rfl zG trivial (by simp)) ?_ | refine af rfl (bx rfl rfl zG trivial (em (by assumption) rfl)) ?_ | refine af rfl (bx rfl rfl zG trivial (by assumption)) ?_ | refine af rfl (ei rfl rfl zG trivial rfl (by assumption) rfl (by decide)) ?_ | refine af rfl (eo rfl rfl zG (by rfl)) ?_
      try dsimp only [St.put]
      first | refine af rfl (a7 rfl rfl) ?_ | refine af rfl (aq rfl rfl (Enc.len _)) ?_ | refine af rfl (aq rfl rfl rfl) ?_ | refine af rfl (dd rfl rfl zG trivial (by first | rfl | assumption)) ?_ | refine af rfl (dc rfl rfl zG trivial (by rfl)) ?_ | refine af rfl (ep rfl rfl zG trivial (by simp)) ?_ | refine af rfl (bx rfl rfl zG trivial (em (by assumption) rfl)) ?_ | refine af rfl (bx rfl rfl zG trivial (by assumption)) ?_ | refine af rfl (ei rfl rfl zG trivial rfl (by assumption) rfl (by decide)) ?_ | refine af rfl (eo rfl rfl zG (by rfl)) ?_
      try dsimp only [St.put]
      refine ae rfl (eb rfl rfl rfl (c3) zG ?_)
      refine aa rfl (a8 rfl (by constructor)) ?_
      refine aa rfl (c7 rfl rfl rfl) ?_
      refine aa rfl (c7 rfl rfl rfl) ?_
      refine aa rfl (c7 rfl rfl rfl) ?_
      refine aa rfl (cg rfl (by constructor)) ?_
      refine aa rfl (cg rfl (by constructor)) ?_
      refine aa rfl (cg rfl (by constructor)) ?_
      refine cx ?_
      dsimp only [St.put]
      refine hK37 _ ?_
      refine e8 fun K38 hK38 => ?_
      refine dl ?_
      refine aa rfl (a8 rfl (by constructor)) ?_
      refine aa rfl (a8 rfl (by constructor)) ?_
      refine aa rfl (a8 rfl (by constructor)) ?_
      refine aa rfl (bt (g3 rfl rfl rfl) (decide_eq_true (by omega))) ?_
      first | refine aa rfl (bg rfl rfl (by constructor)) ?_ | refine aa rfl (cd rfl rfl (by constructor)) ?_ | refine aa rfl (dz rfl rfl rfl rfl) ?_ | refine aa rfl (dx rfl rfl rfl rfl) ?_
      refine aa rfl (a8 rfl (by constructor)) ?_
      refine aa rfl (a8 rfl (by constructor)) ?_
      refine aa rfl (bt (g3 rfl rfl rfl) (decide_eq_true (by omega))) ?_
      first | refine aa rfl (bg rfl rfl (by constructor)) ?_ | refine aa rfl (cd rfl rfl (by constructor)) ?_ | refine aa rfl (dz rfl rfl rfl rfl) ?_ | refine aa rfl (dx rfl rfl rfl rfl) ?_
      refine aa rfl (a8 rfl (by constructor)) ?_
      refine aa rfl (a8 rfl (by constructor)) ?_
      refine aa rfl (bt (g3 rfl rfl rfl) (decide_eq_true (by omega))) ?_
      first | refine aa rfl (bg rfl rfl (by constructor)) ?_ | refine aa rfl (cd rfl rfl (by constructor)) ?_ | refine aa rfl (dz rfl rfl rfl rfl) ?_ | refine aa rfl (dx rfl rfl rfl rfl) ?_
      refine aa rfl (a8 rfl (by constructor)) ?_
      refine aa rfl (a8 rfl (by constructor)) ?_
      refine aa rfl (bt (g3 rfl rfl rfl) (decide_eq_true (by omega))) ?_
      first | refine aa rfl (bg rfl rfl (by constructor)) ?_ | refine aa rfl (cd rfl rfl (by constructor)) ?_ | refine aa rfl (dz rfl rfl rfl rfl) ?_ | refine aa rfl (dx rfl rfl rfl rfl) ?_
      refine aa rfl (a8 rfl (by constructor)) ?_
      refine aa rfl (a8 rfl (by constructor)) ?_
      refine aa rfl (bt (g3 rfl rfl rfl) (decide_eq_true (by omega))) ?_
      first | refine aa rfl (bg rfl rfl (by constructor)) ?_ | refine aa rfl (cd rfl rfl (by constructor)) ?_ | refine aa rfl (dz rfl rfl rfl rfl) ?_ | refine aa rfl (dx rfl rfl rfl rfl) ?_
      refine aa rfl (cg rfl (by constructor)) ?_
      refine cx ?_
      dsimp only [St.put]
      refine hK38 _ ?_
      refine am ?_
      refine bf rfl (by constructor) zN zS ?_
      rfl
end Go.Proofs.YtjjklfgpffgnfaaGreatDoor
