/-
  What the walks through the program rest on: values, states, steps, calls (AcOne, AcEq, AcTwo, AcThree, AcFour, AcFive).
-/
import Derived.Test.YtjjklfgpffgnfaaGreatDoorAdData
import Derived.Test.YtjjklfgpffgnfaaGreatDoorAbTypes
import Derived.Tactics
import Derived.Laws.StructEq
namespace Go.Proofs.YtjjklfgpffgnfaaGreatDoor
set_option maxRecDepth 10000
open Go.RowKit Go.AB
open Go.PB (bv ai PlaceD cy c6 cz)

theorem qm (n lo hi : Int) : c8 Tryz.prog 121 [.v (.int .i64 n), .v (.int .i64 lo), .v (.int .i64 hi)] (.v (.bool (inB n lo hi))) := by
 refine dr Tryz.func121 rfl (fun m => .v) fun G nx => ?_
 simp only [Tryz.ntmps121, List.length_cons, List.length_nil, Nat.reduceAdd, Nat.reduceSub]
 refine bi fun hlt => ?_
 dsimp only at hlt
 refine yS fun _ K1 => ?_
 refine yR ?_
 refine yA rfl rfl ?_
 refine yN ?_
 dsimp only [St.put]
 refine K1 _ ?_
 refine yS fun _ K2 => ?_
 refine yR ?_
 refine yM rfl rfl ?_
 refine yM rfl rfl ?_
 refine aa rfl (m9 rfl rfl rfl) ?_
 refine e7 (fun hs => ?_) (fun hs => ?_)
 ·try replace hs := of_decide_eq_true hs
  refine yM rfl rfl ?_
  refine yM rfl rfl ?_
  refine yM rfl rfl ?_
  refine aa rfl (sx rfl rfl rfl) ?_
  refine aa rfl (bg rfl rfl (by constructor)) ?_
  refine yA rfl rfl ?_
  refine yN ?_
  dsimp only [St.put]
  refine K2 _ ?_
  refine am ?_
  refine bf rfl (by constructor) zN zS ?_
  exact vb (by simp [inB, hs]; try omega)
 try replace hs := of_decide_eq_false hs
 refine yM rfl rfl ?_
 refine yK rfl ?_
 refine yK rfl ?_
 refine yK rfl ?_
 refine aa rfl (cd rfl rfl (by constructor)) ?_
 refine yA rfl rfl ?_
 refine yN ?_
 dsimp only [St.put]
 refine K2 _ ?_
 refine am ?_
 refine bf rfl (by constructor) zN zS ?_
 exact vb (by simp [inB, hs]; try omega)

theorem ump (s : ByteArray) : c8 Tryz.prog 122 [.v (.string s)] (.v (.bool (ky s))) := by
 refine dr Tryz.func122 rfl (fun m => .v) fun G nx => ?_
 simp only [Tryz.ntmps122, List.length_cons, List.length_nil, Nat.reduceAdd, Nat.reduceSub]
 refine bi fun hlt => ?_
 dsimp only at hlt
 refine lz 0 (fun hf => ?_)
 have hm : s.size ≤ 9223372036854775807 := okV_str.1 (fit_v.1 hf)
 clear hf
 refine yS fun _ K1 => ?_
 refine yR ?_
 refine yA rfl rfl ?_
 refine yN ?_
 dsimp only [St.put]
 refine K1 _ ?_
 refine yS fun _ K2 => ?_
 refine yS fun _ K3 => ?_
 refine yR ?_
 refine yA rfl rfl ?_
 refine yN ?_
 dsimp only [St.put]
 refine K3 _ ?_
 refine bn ?_
 refine eg 4 ?_
 simp only [dj, bq, Nat.reduceAdd, List.getD_cons_zero, List.getD_cons_succ, List.getD_nil, dw, Nat.reduceBEq, cond_true, cond_false]
 refine fg (G) zX ?_
 dsimp only
 refine fu (X := Nat) (fun k => k ≤ s.size ∧ (s.data.toList.take k).all okc = true) (fun k => s.size - k) (fun k => [(3, .v (.int .i64 (k : Int)))]) (fun k G' => G') 0 rfl ?_ ?_ (fun _ _ h => h) ?_ ?_ ?_
 ·exact ⟨by simp, by simp⟩
 ·exact zF
 ·rintro k hI
  exact zL
 ·exact fun _ _ _ _ h => .inl h
 rintro k hI
 dsimp only at hI ⊢
 refine yS fun _ K4 => ?_
 refine yS fun _ K5 => ?_
 refine yR ?_
 refine yM rfl rfl ?_
 refine yM rfl rfl ?_
 refine aa rfl (py rfl rfl) ?_
 refine aa rfl (cr rfl rfl rfl) ?_
 refine yN ?_
 dsimp only [St.put]
 refine K5 _ ?_
 refine al rfl (fun hc => ?_) (fun hc => ?_)
 ·replace hc := of_decide_eq_true hc
  obtain ⟨b, hb⟩ : ∃ b, s.data.toList[k]? = some b := fj (by simp; omega)
  refine aw ?_
  refine K4 _ ?_
  refine yS fun _ K6 => ?_
  refine bn ?_
  refine yS fun _ K7 => ?_
  refine yR ?_
  refine yM rfl rfl ?_
  refine yM rfl rfl ?_
  refine aa rfl (uac rfl rfl rfl rfl (by assumption)) ?_
  refine aa rfl (cr rfl rfl rfl) ?_
  refine e7 (fun hs => ?_) (fun hs => ?_)
  ·try replace hs := of_decide_eq_true hs
   refine yM rfl rfl ?_
   refine yK rfl ?_
   refine yK rfl ?_
   refine yK rfl ?_
   refine yK rfl ?_
   refine aa rfl (bg rfl rfl (by constructor)) ?_
   refine yN ?_
   dsimp only [St.put]
   refine K7 _ ?_
   refine al rfl (fun _ => ?_) (fun h => by cases h)
   refine yS fun _ K8 => ?_
   refine yR ?_
   refine yA rfl rfl ?_
   refine yN ?_
   dsimp only [St.put]
   refine K8 _ ?_
   refine am ?_
   refine bf rfl (by constructor) zN zS ?_
   exact vb (by
    have : s.data.toList.all okc = false := ku hb (by simp [okc]; omega)
    simp [ky, this])
  try replace hs := of_decide_eq_false hs
  refine yM rfl rfl ?_
  refine yM rfl rfl ?_
  refine yM rfl rfl ?_
  refine aa rfl (uac rfl rfl rfl rfl (by assumption)) ?_
  refine aa rfl (gz rfl rfl rfl) ?_
  refine aa rfl (cd rfl rfl (by constructor)) ?_
  refine yN ?_
  dsimp only [St.put]
  refine K7 _ ?_
  refine al rfl (fun hc => ?_) (fun hc => ?_)
  ·try replace hc := of_decide_eq_true hc
   refine yS fun _ K9 => ?_
   refine yR ?_
   refine yA rfl rfl ?_
   refine yN ?_
   dsimp only [St.put]
   refine K9 _ ?_
   refine am ?_
   refine bf rfl (by constructor) zN zS ?_
   exact vb (by
    have : s.data.toList.all okc = false := ku hb (by simp [okc]; omega)
    simp [ky, this])
  try replace hc := of_decide_eq_false hc
  refine aw ?_
  refine K6 _ ?_
  refine yR ?_
  refine yM rfl rfl ?_
  refine aa rfl (bw rfl rfl rfl (by omega)) ?_
  refine yA rfl rfl ?_
  refine yN ?_
  dsimp only [St.put]
  exact ⟨k + 1, by omega, ⟨by omega, by rw [pi hb, hI.2]; simp [okc]; omega⟩, ⟨⟨rfl, rfl⟩, zF, zB, zN, zX⟩⟩
 try replace hc := of_decide_eq_false hc
 refine ey ?_
 refine K2 _ ?_
 refine yS fun _ K10 => ?_
 refine yR ?_
 refine yM rfl rfl ?_
 refine aa rfl (py rfl rfl) ?_
 try dsimp only [St.put]
 refine ae rfl (bd rfl rfl rfl (qm _ _ _) ?_)
 refine yA rfl rfl ?_
 refine yN ?_
 dsimp only [St.put]
 refine K10 _ ?_
 refine am ?_
 refine bf rfl (by constructor) zN zS ?_
 exact vb (by
  have h1 := hI.2
  rw [List.take_of_length_le (by simp; omega)] at h1
  simp [ky, h1])

end Go.Proofs.YtjjklfgpffgnfaaGreatDoor
namespace Go.AB
open Go Go.RowKit
open Go.AB.Enc (cells)
open Go.PB (bv ai PlaceD cy c6 cz)
/-- Data that are read as they are. -/
class FlatV (α : Type) [Enc α] where
 vals : α → List Value
 eq : ∀ x, cells x = (vals x).map C.v
theorem FlatV.agg {α : Type} [Enc α] [FlatV α] {E : Env} {w : World} {x : α} {v : Value} (h : R E w (.agg (cells x)) v) : v = .agg (FlatV.vals x).toArray := by
 rw [FlatV.eq] at h
 obtain ⟨vs, rfl, h1, _⟩ := h.agg_inv
 congr 2
 apply List.ext_getElem?
 intro j
 have hl := h1.1
 simp only [List.length_map] at hl
 by_cases hj : j < (FlatV.vals x).length
 ·have h2 := h1.2 j (.v (FlatV.vals x)[j]) vs[j] (by rw [List.getElem?_map, List.getElem?_eq_getElem hj]; rfl) (List.getElem?_eq_getElem (by omega))
  rw [List.getElem?_eq_getElem (by omega), List.getElem?_eq_getElem hj, h2.v_inv]
 ·rw [List.getElem?_eq_none (by omega), List.getElem?_eq_none (by omega)]
class EqT (P : Program) (t : TypeId) (α : Type) [Enc α] [FlatV α] [DecidableEq α] : Prop where
 guard : ∀ (op : BinOp) (w : World) (X Y : Operand) (xs ys : Array Value), (eqGuard op t X Y (.agg xs) (.agg ys)).run P w = .ok () w
 same : ∀ (w : World) (x y : α), (Op.equalIn 10000 t (.agg (FlatV.vals x).toArray) (.agg (FlatV.vals y).toArray)).run P w = .ok (decide (x = y)) w
section
variable {P : Program} {o : Oper} {st : St}
theorem nz {α : Type} [Enc α] [FlatV α] [DecidableEq α] {t t' : TypeId} [EqT P t α] {X Y : Operand} {x y : α} (ho : o.op = .binOp .eql t X Y t') (hx : evC st X = .agg (cells x)) (hy : evC st Y = .agg (cells y)) : NStep P o st (.v (.bool (decide (x = y)))) := fun E w a hs => by
 have e1 := (hx ▸ hs.ev X).agg_inv
 have e1 := FlatV.agg (hx ▸ hs.ev X)
 have e2 := FlatV.agg (hy ▸ hs.ev Y)
 refine ⟨_, .v rfl, fun w' => ?_⟩
 have hg := EqT.guard (P := P) (t := t) (α := α) .eql w' X Y (FlatV.vals x).toArray (FlatV.vals y).toArray
 have hq := EqT.same (P := P) (t := t) w' x y
 have hb : binOp .eql t (.agg (FlatV.vals x).toArray) (.agg (FlatV.vals y).toArray) = (do pure (.bool (← Op.equal t (.agg (FlatV.vals x).toArray) (.agg (FlatV.vals y).toArray))) : Sem Value) := rfl
 simp only [execOp, ho, e1, e2, Sem.run_bind, hg, Result.andThen_ok, hb, Op.equal, Op.maxDepth, hq]
 rfl
theorem vm {α : Type} [Enc α] [FlatV α] [DecidableEq α] {t t' : TypeId} [EqT P t α] {X Y : Operand} {x y : α} (ho : o.op = .binOp .neq t X Y t') (hx : evC st X = .agg (cells x)) (hy : evC st Y = .agg (cells y)) : NStep P o st (.v (.bool (!decide (x = y)))) := fun E w a hs => by
 have e1 := FlatV.agg (hx ▸ hs.ev X)
 have e2 := FlatV.agg (hy ▸ hs.ev Y)
 refine ⟨_, .v rfl, fun w' => ?_⟩
 have hg := EqT.guard (P := P) (t := t) (α := α) .neq w' X Y (FlatV.vals x).toArray (FlatV.vals y).toArray
 have hq := EqT.same (P := P) (t := t) w' x y
 have hb : binOp .neq t (.agg (FlatV.vals x).toArray) (.agg (FlatV.vals y).toArray) = (do pure (.bool (!(← Op.equal t (.agg (FlatV.vals x).toArray) (.agg (FlatV.vals y).toArray)))) : Sem Value) := rfl
 simp only [execOp, ho, e1, e2, Sem.run_bind, hg, Result.andThen_ok, hb, Op.equal, Op.maxDepth, hq]
 rfl
end
instance : FlatV PlaceD := ⟨fun x => [.int .i64 x.ch, .int .i64 x.ln, .int .i64 x.wd], fun _ => rfl⟩
end Go.AB

namespace Go.Proofs.YtjjklfgpffgnfaaGreatDoor
open Go Go.RowKit Go.AB
open Go.AB.Enc (cells)
open Go.PB (bv ai PlaceD cy c6 cz)
theorem ud2 : Tryz.prog.underlying 32 = some (.struct (Tryz.prog.fieldsOf 32)) := by kernel_rfl
theorem uff : Tryz.prog.stoodInHeld 32 = false := by kernel_rfl
instance : EqT Tryz.prog 32 PlaceD where
 guard op w x y xs ys := run_eqGuard_agg w op _ x y xs ys (by kernel_rfl)
 same w x y := by
  obtain ⟨a, b, c⟩ := x
  obtain ⟨a', b', c'⟩ := y
  simp only [FlatV.vals]
  rw [run_equalIn_agg _ _ _ _ _ ud2 uff]
  by_cases h1 : a = a' <;> by_cases h2 : b = b' <;> by_cases h3 : c = c' <;> simp [go_sem, h1, h2, h3]
end Go.Proofs.YtjjklfgpffgnfaaGreatDoor
namespace Go.Proofs.YtjjklfgpffgnfaaGreatDoor
set_option maxRecDepth 10000
open Go.RowKit Go.AB
open Go.PB (bv ai PlaceD cy c6 cz)



theorem um1 (t : ai) : c8 Tryz.prog 72 [b8 t] (.v (.bool (n5 t))) := by
 refine dr Tryz.func72 rfl (fun m => .v) fun G nx => ?_
 simp only [Tryz.ntmps72, List.length_cons, List.length_nil, Nat.reduceAdd, Nat.reduceSub]
 refine bi fun hlt => ?_
 dsimp only at hlt
 refine lz 0 (fun hf => ?_)
 replace hf := ui hf
 refine yS fun _ K1 => ?_
 refine yR ?_
 try dsimp only [St.put]
 refine yB rfl rfl rfl ?_
 refine yA rfl rfl ?_
 refine yN ?_
 dsimp only [St.put]
 refine K1 _ ?_
 refine yS fun _ K2 => ?_
 refine yS fun _ K3 => ?_
 refine yR ?_
 refine yF rfl rfl rfl rfl ?_
 refine yL rfl rfl rfl ?_
 refine aa rfl (ck rfl rfl (List.length_map _)) ?_
 refine aa rfl (gz rfl rfl rfl) ?_
 refine yN ?_
 dsimp only [St.put]
 refine K3 _ ?_
 refine al rfl (fun hc => ?_) (fun hc => ?_)
 ·skip
  refine yS fun _ K4 => ?_
  refine yR ?_
  refine yA rfl rfl ?_
  refine yN ?_
  dsimp only [St.put]
  refine K4 _ ?_
  refine am ?_
  refine bf rfl (by constructor) zN zS ?_
  exact vb (by have := of_decide_eq_true (hc : decide _ = true); simp [n5]; omega)
 replace hc := of_decide_eq_false hc
 refine aw ?_
 refine K2 _ ?_
 refine yS fun _ K5 => ?_
 refine yS fun _ K6 => ?_
 refine yR ?_
 refine yA rfl rfl ?_
 refine yN ?_
 dsimp only [St.put]
 refine K6 _ ?_
 refine bn ?_
 refine eg 6 ?_
 simp only [dj, bq, Nat.reduceAdd, List.getD_cons_zero, List.getD_cons_succ, List.getD_nil, dw, Nat.reduceBEq, cond_true, cond_false]
 refine fg (G) zX ?_
 dsimp only
 refine fu (X := Nat) (fun k => k ≤ t.length ∧ (t.take k).any nk = false) (fun k => t.length - k) (fun k => [(3, .v (.int .i64 (k : Int))), (4, .any), (5, .any)]) (fun k G' => G') 0 rfl ?_ ?_ (fun _ _ h => h) ?_ ?_ ?_
 ·exact ⟨by simp, by simp⟩
 ·exact zF
 ·rintro k hI
  exact zL
 ·exact fun _ _ _ _ h => .inl h
 rintro k hI
 dsimp only at hI ⊢
 refine yS fun _ K7 => ?_
 refine yS fun _ K8 => ?_
 refine yR ?_
 refine yM rfl rfl ?_
 refine yF rfl rfl rfl rfl ?_
 refine yL rfl rfl rfl ?_
 refine aa rfl (ck rfl rfl (List.length_map _)) ?_
 refine aa rfl (cr rfl rfl rfl) ?_
 refine yN ?_
 dsimp only [St.put]
 refine K8 _ ?_
 refine al rfl (fun hc => ?_) (fun hc => ?_)
 ·replace hc := of_decide_eq_true hc
  obtain ⟨c, hx⟩ : ∃ x, t[k]? = some x := fj (by omega)
  have hf1 := hf.lines c (gr hx)
  have hf0 := hf.len
  refine aw ?_
  refine K7 _ ?_
  refine yS fun _ K9 => ?_
  refine bn ?_
  refine yS fun _ K10 => ?_
  refine yS fun _ K11 => ?_
  refine yR ?_
  refine yF rfl rfl rfl rfl ?_
  refine yL rfl rfl rfl ?_
  refine yM rfl rfl ?_
  refine aa rfl (b7 rfl rfl rfl rfl (cm (by assumption)) (Enc.len _)) ?_
  refine yF rfl rfl rfl rfl ?_
  refine yL rfl rfl rfl ?_
  refine aa rfl (ck rfl rfl (List.length_map _)) ?_
  refine aa rfl (gz rfl rfl rfl) ?_
  refine yN ?_
  dsimp only [St.put]
  refine K11 _ ?_
  refine al rfl (fun hc => ?_) (fun hc => ?_)
  ·skip
   refine yS fun _ K12 => ?_
   refine yR ?_
   refine yA rfl rfl ?_
   refine yN ?_
   dsimp only [St.put]
   refine K12 _ ?_
   refine am ?_
   refine bf rfl (by constructor) zN zS ?_
   exact vb (by have h0 := of_decide_eq_true (hc : decide _ = true); have := ph (p := nk) hx (by simp [nk]; omega); simp [n5, this])
  have h15 := of_decide_eq_false hc
  refine aw ?_
  refine K10 _ ?_
  refine yS fun _ K13 => ?_
  refine yR ?_
  refine yA rfl rfl ?_
  refine yN ?_
  dsimp only [St.put]
  refine K13 _ ?_
  refine bn ?_
  refine eg 6 ?_
  simp only [dj, bq, Nat.reduceAdd, List.getD_cons_zero, List.getD_cons_succ, List.getD_nil, dw, Nat.reduceBEq, cond_true, cond_false]
  refine fg (G) zX ?_
  dsimp only
  refine fu (X := Nat) (fun n => n ≤ c.lines.length ∧ (c.lines.take n).any o7 = false) (fun n => c.lines.length - n) (fun n => [(4, .v (.int .i64 (n : Int))), (5, .any)]) (fun n G' => G') 0 rfl ?_ ?_ (fun _ _ h => h) ?_ ?_ ?_
  ·exact ⟨by simp, by simp⟩
  ·exact zF
  ·rintro n hI
   exact zL
  ·exact fun _ _ _ _ h => .inl h
  rintro n hJ
  dsimp only at hJ ⊢
  refine yS fun _ K14 => ?_
  refine yS fun _ K15 => ?_
  refine yR ?_
  refine yM rfl rfl ?_
  refine yF rfl rfl rfl rfl ?_
  refine yL rfl rfl rfl ?_
  refine yM rfl rfl ?_
  refine aa rfl (b7 rfl rfl rfl rfl (cm (by assumption)) (Enc.len _)) ?_
  refine yF rfl rfl rfl rfl ?_
  refine yL rfl rfl rfl ?_
  refine aa rfl (ck rfl rfl (List.length_map _)) ?_
  refine aa rfl (cr rfl rfl rfl) ?_
  refine yN ?_
  dsimp only [St.put]
  refine K15 _ ?_
  refine al rfl (fun hc => ?_) (fun hc => ?_)
  ·replace hc := of_decide_eq_true hc
   obtain ⟨l, hl⟩ : ∃ x, c.lines[n]? = some x := fj (by omega)
   have hf3 := hf.words c (gr hx) l (gr hl)
   refine aw ?_
   refine K14 _ ?_
   refine yS fun _ K16 => ?_
   refine bn ?_
   refine yS fun _ K17 => ?_
   refine yS fun _ K18 => ?_
   refine yR ?_
   refine yF rfl rfl rfl rfl ?_
   refine yL rfl rfl rfl ?_
   refine yM rfl rfl ?_
   refine aa rfl (b7 rfl rfl rfl rfl (cm (by assumption)) (Enc.len _)) ?_
   refine yF rfl rfl rfl rfl ?_
   refine yL rfl rfl rfl ?_
   refine yM rfl rfl ?_
   refine aa rfl (b7 rfl rfl rfl rfl (cm (by assumption)) (Enc.len _)) ?_
   refine yL rfl rfl rfl ?_
   refine aa rfl (ck rfl rfl (List.length_map _)) ?_
   refine aa rfl (gz rfl rfl rfl) ?_
   refine yN ?_
   dsimp only [St.put]
   refine K18 _ ?_
   refine al rfl (fun hc => ?_) (fun hc => ?_)
   ·skip
    refine yS fun _ K19 => ?_
    refine yR ?_
    refine yA rfl rfl ?_
    refine yN ?_
    dsimp only [St.put]
    refine K19 _ ?_
    refine am ?_
    refine bf rfl (by constructor) zN zS ?_
    exact vb (by have h0 := of_decide_eq_true (hc : decide _ = true); have h1 := ph (p := o7) hl (by simp [o7]; omega); have := ph (p := nk) hx (by simp [nk, h1]); simp [n5, this])
   have h16 := of_decide_eq_false hc
   refine aw ?_
   refine K17 _ ?_
   refine yS fun _ K20 => ?_
   refine yR ?_
   refine yA rfl rfl ?_
   refine yN ?_
   dsimp only [St.put]
   refine K20 _ ?_
   refine bn ?_
   refine eg 6 ?_
   simp only [dj, bq, Nat.reduceAdd, List.getD_cons_zero, List.getD_cons_succ, List.getD_nil, dw, Nat.reduceBEq, cond_true, cond_false]
   refine fg (G) zX ?_
   dsimp only
   refine fu (X := Nat) (fun m => m ≤ l.length ∧ (l.take m).any (fun s => decide (40 < s.size)) = false) (fun m => l.length - m) (fun m => [(5, .v (.int .i64 (m : Int)))]) (fun m G' => G') 0 rfl ?_ ?_ (fun _ _ h => h) ?_ ?_ ?_
   ·exact ⟨by simp, by simp⟩
   ·exact zF
   ·rintro m hI
    exact zL
   ·exact fun _ _ _ _ h => .inl h
   rintro m hL
   dsimp only at hL ⊢
   refine yS fun _ K21 => ?_
   refine yS fun _ K22 => ?_
   refine yR ?_
   refine yM rfl rfl ?_
   refine yF rfl rfl rfl rfl ?_
   refine yL rfl rfl rfl ?_
   refine yM rfl rfl ?_
   refine aa rfl (b7 rfl rfl rfl rfl (cm (by assumption)) (Enc.len _)) ?_
   refine yF rfl rfl rfl rfl ?_
   refine yL rfl rfl rfl ?_
   refine yM rfl rfl ?_
   refine aa rfl (b7 rfl rfl rfl rfl (cm (by assumption)) (Enc.len _)) ?_
   refine yL rfl rfl rfl ?_
   refine aa rfl (ck rfl rfl (List.length_map _)) ?_
   refine aa rfl (cr rfl rfl rfl) ?_
   refine yN ?_
   dsimp only [St.put]
   refine K22 _ ?_
   refine al rfl (fun hc => ?_) (fun hc => ?_)
   ·replace hc := of_decide_eq_true hc
    obtain ⟨s, hs⟩ : ∃ x, l[m]? = some x := fj (by omega)
    refine aw ?_
    refine K21 _ ?_
    refine yS fun _ K23 => ?_
    refine bn ?_
    refine yS fun _ K24 => ?_
    refine yR ?_
    refine yF rfl rfl rfl rfl ?_
    refine yL rfl rfl rfl ?_
    refine yM rfl rfl ?_
    refine aa rfl (b7 rfl rfl rfl rfl (cm (by assumption)) (Enc.len _)) ?_
    refine yF rfl rfl rfl rfl ?_
    refine yL rfl rfl rfl ?_
    refine yM rfl rfl ?_
    refine aa rfl (b7 rfl rfl rfl rfl (cm (by assumption)) (Enc.len _)) ?_
    refine yL rfl rfl rfl ?_
    refine yM rfl rfl ?_
    refine aa rfl (b7 rfl rfl rfl rfl (cm (by assumption)) (Enc.len _)) ?_
    refine yL rfl rfl rfl ?_
    refine aa rfl (py rfl rfl) ?_
    refine aa rfl (gz rfl rfl rfl) ?_
    refine yN ?_
    dsimp only [St.put]
    refine K24 _ ?_
    refine al rfl (fun hc => ?_) (fun hc => ?_)
    ·skip
     refine yS fun _ K25 => ?_
     refine yR ?_
     refine yA rfl rfl ?_
     refine yN ?_
     dsimp only [St.put]
     refine K25 _ ?_
     refine am ?_
     refine bf rfl (by constructor) zN zS ?_
     exact vb (by have h0 := of_decide_eq_true (hc : decide _ = true); have h2 : l.any (fun s => decide (40 < s.size)) = true := ph hs (by simp; omega); have h1 := ph (p := o7) hl (by simp [o7, h2]); have := ph (p := nk) hx (by simp [nk, h1]); simp [n5, this])
    skip
    refine aw ?_
    refine K23 _ ?_
    refine yR ?_
    refine yM rfl rfl ?_
    refine aa rfl (bw rfl rfl rfl (by omega)) ?_
    refine yA rfl rfl ?_
    refine yN ?_
    dsimp only [St.put]
    exact ⟨m + 1, by omega, ⟨by omega, by rw [rt hs, hL.2]; have := of_decide_eq_false hc; simp; omega⟩, ⟨⟨rfl, rfl⟩, zF, zB, zN, zX⟩⟩
   try replace hc := of_decide_eq_false hc
   refine ey ?_
   refine K16 _ ?_
   refine yR ?_
   refine yM rfl rfl ?_
   refine aa rfl (bw rfl rfl rfl (by omega)) ?_
   refine yA rfl rfl ?_
   refine yN ?_
   dsimp only [St.put]
   exact ⟨n + 1, by omega, ⟨by omega, by rw [rt hl, hJ.2]; have h1 := hL.2; rw [im (by omega)] at h1; simp [o7, h1]; omega⟩, ⟨⟨rfl, rfl⟩, zF, zB, zN, zX⟩⟩
  try replace hc := of_decide_eq_false hc
  refine ey ?_
  refine K9 _ ?_
  refine yR ?_
  refine yM rfl rfl ?_
  refine aa rfl (bw rfl rfl rfl (by omega)) ?_
  refine yA rfl rfl ?_
  refine yN ?_
  dsimp only [St.put]
  exact ⟨k + 1, by omega, ⟨by omega, by rw [rt hx, hI.2]; have h1 := hJ.2; rw [im (by omega)] at h1; simp [nk, h1]; omega⟩, ⟨⟨rfl, rfl⟩, zF, zB, zN, zX⟩⟩
 try replace hc := of_decide_eq_false hc
 refine ey ?_
 refine K5 _ ?_
 refine yS fun _ K26 => ?_
 refine yR ?_
 refine yA rfl rfl ?_
 refine yN ?_
 dsimp only [St.put]
 refine K26 _ ?_
 refine am ?_
 refine bf rfl (by constructor) zN zS ?_
 exact vb (by have h1 := hI.2; rw [im (by omega)] at h1; simp [n5, h1]; omega)
structure Small (t : ai) : Prop where
 len : t.length ≤ 10
 lines : ∀ c ∈ t, c.lines.length ≤ 15
 words : ∀ c ∈ t, ∀ l ∈ c.lines, l.length ≤ 15
 size : ∀ c ∈ t, ∀ l ∈ c.lines, ∀ s ∈ l, s.size ≤ 40
end Go.Proofs.YtjjklfgpffgnfaaGreatDoor
namespace Go.Proofs.YtjjklfgpffgnfaaGreatDoor
set_option maxRecDepth 10000
open Go.RowKit Go.AB
open Go.PB (bv ai PlaceD cy c6 cz)

end Go.Proofs.YtjjklfgpffgnfaaGreatDoor
namespace Go.Proofs.YtjjklfgpffgnfaaGreatDoor
set_option maxRecDepth 10000
open Go.RowKit Go.AB
open Go.PB (bv ai PlaceD cy c6 cz)

theorem umq (t : ai) : c8 Tryz.prog 95 [b8 t] (.v (.bool (ct t))) := by
 refine dr Tryz.func95 rfl (fun m => .v) fun G nx => ?_
 simp only [Tryz.ntmps95, List.length_cons, List.length_nil, Nat.reduceAdd, Nat.reduceSub]
 refine bi fun hlt => ?_
 dsimp only at hlt
 refine lz 0 (fun hf => ?_)
 replace hf := ui hf
 have hf0 := hf.len
 refine yS fun _ K1 => ?_
 refine yR ?_
 try dsimp only [St.put]
 refine yB rfl rfl rfl ?_
 refine yA rfl rfl ?_
 refine yN ?_
 dsimp only [St.put]
 refine K1 _ ?_
 refine yS fun _ K2 => ?_
 refine yS fun _ K3 => ?_
 refine yR ?_
 refine yF rfl rfl rfl rfl ?_
 refine yL rfl rfl rfl ?_
 refine aa rfl (ck rfl rfl (List.length_map _)) ?_
 try dsimp only [St.put]
 refine ae rfl (bd rfl rfl rfl (qm _ _ _) ?_)
 refine aa rfl (dn rfl rfl) ?_
 refine yN ?_
 dsimp only [St.put]
 refine K3 _ ?_
 refine al rfl (fun hc => ?_) (fun hc => ?_)
 ·try replace hc := of_decide_eq_true hc
  refine yS fun _ K4 => ?_
  refine yR ?_
  refine yA rfl rfl ?_
  refine yN ?_
  dsimp only [St.put]
  refine K4 _ ?_
  refine am ?_
  refine bf rfl (by constructor) zN zS ?_
  exact vb (by simp at hc; simp [ct, hc])
 have hc0 : inB t.length 1 6 = true := by simpa using hc
 clear hc
 refine aw ?_
 refine K2 _ ?_
 refine yS fun _ K5 => ?_
 refine yS fun _ K6 => ?_
 refine yR ?_
 refine yA rfl rfl ?_
 refine yN ?_
 dsimp only [St.put]
 refine K6 _ ?_
 refine bn ?_
 refine eg 8 ?_
 simp only [dj, bq, Nat.reduceAdd, List.getD_cons_zero, List.getD_cons_succ, List.getD_nil, dw, Nat.reduceBEq, cond_true, cond_false]
 refine fg (G) zX ?_
 dsimp only
 refine fu (X := Nat) (fun i => i ≤ t.length ∧ (t.take i).all jj = true ∧ ((t.take i).map (·.id)).Nodup) (fun i => t.length - i) (fun i => [(3, .v (.int .i64 (i : Int))), (4, .any), (5, .any), (6, .any), (7, .any)]) (fun i G' => G') 0 rfl ?_ ?_ (fun _ _ h => h) ?_ ?_ ?_
 ·exact ⟨by simp, by simp, by simp⟩
 ·exact zF
 ·rintro i hI
  exact zL
 ·exact fun _ _ _ _ h => .inl h
 rintro i hI
 dsimp only at hI ⊢
 refine yS fun _ K7 => ?_
 refine yS fun _ K8 => ?_
 refine yR ?_
 refine yM rfl rfl ?_
 refine yF rfl rfl rfl rfl ?_
 refine yL rfl rfl rfl ?_
 refine aa rfl (ck rfl rfl (List.length_map _)) ?_
 refine aa rfl (cr rfl rfl rfl) ?_
 refine yN ?_
 dsimp only [St.put]
 refine K8 _ ?_
 refine al rfl (fun hc => ?_) (fun hc => ?_)
 ·replace hc := of_decide_eq_true hc
  obtain ⟨c, hx⟩ : ∃ x, t[i]? = some x := fj (by omega)
  have hf1 := hf.lines c (gr hx)
  refine aw ?_
  refine K7 _ ?_
  refine yS fun _ K9 => ?_
  refine bn ?_
  refine yS fun _ K10 => ?_
  refine yR ?_
  refine yF rfl rfl rfl rfl ?_
  refine yL rfl rfl rfl ?_
  refine yM rfl rfl ?_
  refine aa rfl (b7 rfl rfl rfl rfl (cm (by assumption)) (Enc.len _)) ?_
  refine yE rfl rfl rfl ?_
  try dsimp only [St.put]
  refine ae rfl (bp rfl ?_)
  try dsimp only [St.put]
  refine ae rfl (ay rfl rfl rfl zG rfl rfl (by rfl) ?_)
  refine yN ?_
  dsimp only [St.put]
  refine K10 _ ?_
  refine dg (i := 4) rfl zG (by first | exact List.cons_ne_nil _ _ | (simp; done) | (simp [putAt]; done)) ?_
  dsimp only
  refine yS fun _ K11 => ?_
  refine yS fun _ K12 => ?_
  refine yR ?_
  refine yF rfl rfl rfl rfl ?_
  refine yL rfl rfl rfl ?_
  try dsimp only [St.put]
  refine ae rfl (bd rfl rfl rfl (qm _ _ _) ?_)
  refine aa rfl (dn rfl rfl) ?_
  refine yM rfl rfl ?_
  refine e7 (fun hs => ?_) (fun hs => ?_)
  ·try replace hs := of_decide_eq_true hs
   refine yK rfl ?_
   refine yK rfl ?_
   refine yK rfl ?_
   refine yK rfl ?_
   refine yK rfl ?_
   refine aa rfl (bg rfl rfl (by constructor)) ?_
   refine yN ?_
   dsimp only [St.put]
   refine K12 _ ?_
   refine al rfl (fun _ => ?_) (fun h => by cases h)
   skip
   refine yS fun _ K13 => ?_
   refine yR ?_
   refine yA rfl rfl ?_
   refine yN ?_
   dsimp only [St.put]
   refine K13 _ ?_
   refine am ?_
   refine bf rfl (by constructor) zN zS ?_
   exact vb (by
    have : t.all jj = false := ku hx (by simp_all [jj])
    simp [ct, this])
  try replace hs := of_decide_eq_false hs
  refine yF rfl rfl rfl rfl ?_
  refine yL rfl rfl rfl ?_
  refine aa rfl (ck rfl rfl (List.length_map _)) ?_
  try dsimp only [St.put]
  refine ae rfl (bd rfl rfl rfl (qm _ _ _) ?_)
  refine aa rfl (dn rfl rfl) ?_
  refine aa rfl (cd rfl rfl (by constructor)) ?_
  refine yN ?_
  dsimp only [St.put]
  refine K12 _ ?_
  refine al rfl (fun hc => ?_) (fun hc => ?_)
  ·skip
   refine yS fun _ K14 => ?_
   refine yR ?_
   refine yA rfl rfl ?_
   refine yN ?_
   dsimp only [St.put]
   refine K14 _ ?_
   refine am ?_
   refine bf rfl (by constructor) zN zS ?_
   exact vb (by
    have : t.all jj = false := ku hx (by simp_all [jj])
    simp [ct, this])
  have hid : inB c.id 0 9999 = true := by simpa using hs
  have hln : inB c.lines.length 1 10 = true := by simpa using hc
  refine aw ?_
  refine K11 _ ?_
  refine yS fun _ K15 => ?_
  refine yS fun _ K16 => ?_
  refine yR ?_
  refine yA rfl rfl ?_
  refine yN ?_
  dsimp only [St.put]
  refine K16 _ ?_
  refine bn ?_
  refine eg 8 ?_
  simp only [dj, bq, Nat.reduceAdd, List.getD_cons_zero, List.getD_cons_succ, List.getD_nil, dw, Nat.reduceBEq, cond_true, cond_false]
  refine fg (G) zX ?_
  dsimp only
  refine fu (X := Nat) (fun k => k ≤ i ∧ ((t.take i).take k).any (fun d => decide (d.id = c.id)) = false) (fun k => i - k) (fun k => [(5, .v (.int .i64 (k : Int))), (6, .any), (7, .any)]) (fun k G' => G') 0 rfl ?_ ?_ (fun _ _ h => h) ?_ ?_ ?_
  ·exact ⟨by simp, by simp⟩
  ·exact zF
  ·rintro k hI
   exact zL
  ·exact fun _ _ _ _ h => .inl h
  rintro k hJ
  dsimp only at hJ ⊢
  refine yS fun _ K17 => ?_
  refine yS fun _ K18 => ?_
  refine yR ?_
  refine yM rfl rfl ?_
  refine yM rfl rfl ?_
  refine aa rfl (cr rfl rfl rfl) ?_
  refine yN ?_
  dsimp only [St.put]
  refine K18 _ ?_
  refine al rfl (fun hc => ?_) (fun hc => ?_)
  ·replace hc := of_decide_eq_true hc
   obtain ⟨d, hd0⟩ : ∃ x, t[k]? = some x := fj (by omega)
   have hd : (t.take i)[k]? = some d := by rw [List.getElem?_take, if_pos (by omega)]; exact hd0
   refine aw ?_
   refine K17 _ ?_
   refine yS fun _ K19 => ?_
   refine bn ?_
   refine yS fun _ K20 => ?_
   refine gj [(0, none), (1, none), (2, none), (3, none), (4, none), (5, none), (6, none), (7, none), (8, none)] (fun i => [].contains i) (fun i => [].contains i) (fun i => [0, 2, 3, 4, 6, 8].contains i) [] (by kernel_rfl) (by kernel_rfl) ?_
   refine ah rfl rfl rfl rfl (b9 rfl rfl rfl) ?_
   try dsimp only [St.put]
   refine aj rfl rfl rfl rfl (a7 rfl rfl) ?_
   refine xM rfl rfl rfl rfl rfl ?_
   try dsimp only [St.put]
   refine ah rfl rfl rfl rfl (b7 rfl rfl rfl rfl (cm (by assumption)) (Enc.len _)) ?_
   refine ah rfl rfl rfl rfl (b9 rfl rfl rfl) ?_
   try dsimp only [St.put]
   refine aj rfl rfl rfl rfl (a7 rfl rfl) ?_
   refine ah rfl rfl rfl rfl (b9 rfl rfl rfl) ?_
   try dsimp only [St.put]
   refine aj rfl rfl rfl rfl (a7 rfl rfl) ?_
   refine ah rfl rfl rfl rfl (g3 rfl rfl rfl) ?_
   refine bu ?_
   dsimp only [St.put]
   refine K20 _ ?_
   refine al rfl (fun hc => ?_) (fun hc => ?_)
   ·skip
    refine yS fun _ K21 => ?_
    refine yR ?_
    refine yA rfl rfl ?_
    refine yN ?_
    dsimp only [St.put]
    refine K21 _ ?_
    refine am ?_
    refine bf rfl (by constructor) zN zS ?_
    exact vb (by
     have := ugm (f := (·.id)) hd0 hx (by omega) (by simpa using hc)
     simp [ct, this])
   skip
   refine aw ?_
   refine K19 _ ?_
   refine yR ?_
   refine yM rfl rfl ?_
   refine aa rfl (bw rfl rfl rfl (by omega)) ?_
   refine yA rfl rfl ?_
   refine yN ?_
   dsimp only [St.put]
   exact ⟨k + 1, by omega, ⟨by omega, by rw [rt hd, hJ.2]; simpa using hc⟩, ⟨⟨rfl, rfl⟩, zF, zB, zN, zX⟩⟩
  try replace hc := of_decide_eq_false hc
  refine ey ?_
  refine K15 _ ?_
  refine yS fun _ K22 => ?_
  refine yR ?_
  refine yA rfl rfl ?_
  refine yN ?_
  dsimp only [St.put]
  refine K22 _ ?_
  refine bn ?_
  refine eg 8 ?_
  simp only [dj, bq, Nat.reduceAdd, List.getD_cons_zero, List.getD_cons_succ, List.getD_nil, dw, Nat.reduceBEq, cond_true, cond_false]
  refine fg (G) zX ?_
  dsimp only
  refine fu (X := Nat) (fun n => n ≤ c.lines.length ∧ (c.lines.take n).all km = true) (fun n => c.lines.length - n) (fun n => [(6, .v (.int .i64 (n : Int))), (7, .any)]) (fun n G' => G') 0 rfl ?_ ?_ (fun _ _ h => h) ?_ ?_ ?_
  ·exact ⟨by simp, by simp⟩
  ·exact zF
  ·rintro n hI
   exact zL
  ·exact fun _ _ _ _ h => .inl h
  rintro n hL
  dsimp only at hL ⊢
  refine yS fun _ K23 => ?_
  refine yS fun _ K24 => ?_
  refine yR ?_
  refine yM rfl rfl ?_
  refine yF rfl rfl rfl rfl ?_
  refine yL rfl rfl rfl ?_
  refine aa rfl (ck rfl rfl (List.length_map _)) ?_
  refine aa rfl (cr rfl rfl rfl) ?_
  refine yN ?_
  dsimp only [St.put]
  refine K24 _ ?_
  refine al rfl (fun hc => ?_) (fun hc => ?_)
  ·replace hc := of_decide_eq_true hc
   obtain ⟨l, hl⟩ : ∃ x, c.lines[n]? = some x := fj (by omega)
   have hf2 := hf.words c (gr hx) l (gr hl)
   refine aw ?_
   refine K23 _ ?_
   refine yS fun _ K25 => ?_
   refine bn ?_
   refine yS fun _ K26 => ?_
   refine yS fun _ K27 => ?_
   refine yR ?_
   refine yF rfl rfl rfl rfl ?_
   refine yL rfl rfl rfl ?_
   refine yM rfl rfl ?_
   refine aa rfl (b7 rfl rfl rfl rfl (cm (by assumption)) (Enc.len _)) ?_
   refine yL rfl rfl rfl ?_
   refine aa rfl (ck rfl rfl (List.length_map _)) ?_
   try dsimp only [St.put]
   refine ae rfl (bd rfl rfl rfl (qm _ _ _) ?_)
   refine aa rfl (dn rfl rfl) ?_
   refine yN ?_
   dsimp only [St.put]
   refine K27 _ ?_
   refine al rfl (fun hc => ?_) (fun hc => ?_)
   ·skip
    refine yS fun _ K28 => ?_
    refine yR ?_
    refine yA rfl rfl ?_
    refine yN ?_
    dsimp only [St.put]
    refine K28 _ ?_
    refine am ?_
    refine bf rfl (by constructor) zN zS ?_
    exact vb (by
     have h1 : c.lines.all km = false := ku hl (by simp_all [km])
     have : t.all jj = false := ku hx (by simp [jj, h1])
     simp [ct, this])
   have hll : inB l.length 1 10 = true := by simpa using hc
   refine aw ?_
   refine K26 _ ?_
   refine yS fun _ K29 => ?_
   refine yR ?_
   refine yA rfl rfl ?_
   refine yN ?_
   dsimp only [St.put]
   refine K29 _ ?_
   refine bn ?_
   refine eg 8 ?_
   simp only [dj, bq, Nat.reduceAdd, List.getD_cons_zero, List.getD_cons_succ, List.getD_nil, dw, Nat.reduceBEq, cond_true, cond_false]
   refine fg (G) zX ?_
   dsimp only
   refine fu (X := Nat) (fun m => m ≤ l.length ∧ (l.take m).all ky = true) (fun m => l.length - m) (fun m => [(7, .v (.int .i64 (m : Int)))]) (fun m G' => G') 0 rfl ?_ ?_ (fun _ _ h => h) ?_ ?_ ?_
   ·exact ⟨by simp, by simp⟩
   ·exact zF
   ·rintro m hI
    exact zL
   ·exact fun _ _ _ _ h => .inl h
   rintro m hM
   dsimp only at hM ⊢
   refine yS fun _ K30 => ?_
   refine yS fun _ K31 => ?_
   refine yR ?_
   refine yM rfl rfl ?_
   refine yF rfl rfl rfl rfl ?_
   refine yL rfl rfl rfl ?_
   refine yM rfl rfl ?_
   refine aa rfl (b7 rfl rfl rfl rfl (cm (by assumption)) (Enc.len _)) ?_
   refine yL rfl rfl rfl ?_
   refine aa rfl (ck rfl rfl (List.length_map _)) ?_
   refine aa rfl (cr rfl rfl rfl) ?_
   refine yN ?_
   dsimp only [St.put]
   refine K31 _ ?_
   refine al rfl (fun hc => ?_) (fun hc => ?_)
   ·replace hc := of_decide_eq_true hc
    obtain ⟨s, hs'⟩ : ∃ x, l[m]? = some x := fj (by omega)
    refine aw ?_
    refine K30 _ ?_
    refine yS fun _ K32 => ?_
    refine bn ?_
    refine yS fun _ K33 => ?_
    refine yR ?_
    refine yF rfl rfl rfl rfl ?_
    refine yL rfl rfl rfl ?_
    refine yM rfl rfl ?_
    refine aa rfl (b7 rfl rfl rfl rfl (cm (by assumption)) (Enc.len _)) ?_
    refine yL rfl rfl rfl ?_
    refine yM rfl rfl ?_
    refine aa rfl (b7 rfl rfl rfl rfl (cm (by assumption)) (Enc.len _)) ?_
    refine yL rfl rfl rfl ?_
    try dsimp only [St.put]
    refine ae rfl (bd rfl rfl rfl (ump _) ?_)
    refine aa rfl (dn rfl rfl) ?_
    refine yN ?_
    dsimp only [St.put]
    refine K33 _ ?_
    refine al rfl (fun hc => ?_) (fun hc => ?_)
    ·skip
     refine yS fun _ K34 => ?_
     refine yR ?_
     refine yA rfl rfl ?_
     refine yN ?_
     dsimp only [St.put]
     refine K34 _ ?_
     refine am ?_
     refine bf rfl (by constructor) zN zS ?_
     exact vb (by
      have h2 : l.all ky = false := ku hs' (by simpa using hc)
      have h1 : c.lines.all km = false := ku hl (by simp [km, h2])
      have : t.all jj = false := ku hx (by simp [jj, h1])
      simp [ct, this])
    skip
    refine aw ?_
    refine K32 _ ?_
    refine yR ?_
    refine yM rfl rfl ?_
    refine aa rfl (bw rfl rfl rfl (by omega)) ?_
    refine yA rfl rfl ?_
    refine yN ?_
    dsimp only [St.put]
    exact ⟨m + 1, by omega, ⟨by omega, by rw [pi hs', hM.2]; simpa using hc⟩, ⟨⟨rfl, rfl⟩, zF, zB, zN, zX⟩⟩
   try replace hc := of_decide_eq_false hc
   refine ey ?_
   refine K25 _ ?_
   refine yR ?_
   refine yM rfl rfl ?_
   refine aa rfl (bw rfl rfl rfl (by omega)) ?_
   refine yA rfl rfl ?_
   refine yN ?_
   dsimp only [St.put]
   exact ⟨n + 1, by omega, ⟨by omega, by
     rw [pi hl, hL.2]
     have h1 := hM.2
     rw [im (by omega)] at h1
     simp [km, h1, hll]⟩, ⟨⟨rfl, rfl⟩, zF, zB, zN, zX⟩⟩
  try replace hc := of_decide_eq_false hc
  refine ey ?_
  refine K9 _ ?_
  refine yR ?_
  refine yM rfl rfl ?_
  refine aa rfl (bw rfl rfl rfl (by omega)) ?_
  refine yA rfl rfl ?_
  refine yN ?_
  dsimp only [St.put]
  exact ⟨i + 1, by omega, ⟨by omega, by
    rw [pi hx, hI.2.1]
    have h1 := hL.2
    rw [im (by omega)] at h1
    simp [jj, h1, hid, hln], by
    rw [s0 hx]
    exact vd hI.2.2 (by have h1 := hJ.2; rw [List.take_take, show min k i = i by omega] at h1; exact ugn h1)⟩, ⟨⟨rfl, rfl⟩, zF, zB, zN, zX⟩⟩
 try replace hc := of_decide_eq_false hc
 refine ey ?_
 refine K5 _ ?_
 refine yS fun _ K35 => ?_
 refine yR ?_
 refine yA rfl rfl ?_
 refine yN ?_
 dsimp only [St.put]
 refine K35 _ ?_
 refine am ?_
 refine bf rfl (by constructor) zN zS ?_
 exact vb (by
  have h1 := hI.2
  rw [im (by omega)] at h1
  simp [ct, hc0, h1.1, h1.2])

end Go.Proofs.YtjjklfgpffgnfaaGreatDoor
namespace Go.Proofs.YtjjklfgpffgnfaaGreatDoor
set_option maxRecDepth 10000
open Go.RowKit Go.AB
open Go.AB.Enc (cells)
open Go.PB (bv ai PlaceD cy c6 cz)

end Go.Proofs.YtjjklfgpffgnfaaGreatDoor
