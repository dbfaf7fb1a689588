/-
  What the walks through the program rest on: values, states, steps, calls (AcOne, AcEq, AcTwo, AcThree, AcFour, AcFive).
-/
import Derived.Test.YtejhjijbgceklaaGreatDoorAdData
import Derived.Test.YtejhjijbgceklaaGreatDoorAbTypes
import Derived.Tactics
import Derived.Laws.StructEq
namespace Go.Proofs.YtejhjijbgceklaaGreatDoor
set_option maxRecDepth 10000
open Go.RowKit Go.AB
open Go.PB (Chap TextD PlaceD ReadingD CopyD WayD)

theorem SameWords_pure (a b : List ByteArray) : Pure Tryz.prog 18 [lst a, lst b] (.v (.bool (decide (a = b)))) := by
 refine pure_of_body Tryz.func18 rfl (fun m => .v) fun G nx => ?_
 simp only [Tryz.ntmps18, List.length_cons, List.length_nil, Nat.reduceAdd, Nat.reduceSub]
 refine aw_lt fun hlt => ?_
 dsimp only at hlt
 refine aw_fit 0 (fun hf => ?_)
 have hf' : a.length ≤ 9223372036854775807 := (fit_lst.1 hf).1
 clear hf
 refine yS fun _ K1 => ?_
 refine yR ?_
 refine yA rfl rfl ?_
 refine yN ?_
 dsimp only [St.put]
 refine K1 _ ?_
 refine yS fun _ K2 => ?_
 refine yS fun _ K3 => ?_
 refine yR ?_
 refine yM rfl rfl ?_
 refine aops_n rfl (n_len' rfl rfl (List.length_map _)) ?_
 refine yM rfl rfl ?_
 refine aops_n rfl (n_len' rfl rfl (List.length_map _)) ?_
 refine aops_n rfl (n_neq rfl rfl rfl) ?_
 refine yN ?_
 dsimp only [St.put]
 refine K3 _ ?_
 refine aw_cond rfl (fun hc => ?_) (fun hc => ?_)
 ·try replace hc := of_decide_eq_true hc
  refine yS fun _ K4 => ?_
  refine yR ?_
  refine yA rfl rfl ?_
  refine yN ?_
  dsimp only [St.put]
  refine K4 _ ?_
  refine aw_ret ?_
  refine ends_1 rfl (by constructor) zN zS ?_
  exact vb (by
   have : a ≠ b := fun e => by subst e; simp at hc
   simp [this])
 have hab := nd_f hc
 refine aw_skip ?_
 refine K2 _ ?_
 refine yS fun _ K5 => ?_
 refine yS fun _ K6 => ?_
 refine yR ?_
 refine yA rfl rfl ?_
 refine yN ?_
 dsimp only [St.put]
 refine K6 _ ?_
 refine aw_block ?_
 refine aw_wipe 6 ?_
 simp only [firsts, getA, Nat.reduceAdd, List.getD_cons_zero, List.getD_cons_succ, List.getD_nil, natBeq, Nat.reduceBEq, cond_true, cond_false]
 refine aw_forget (G) zX ?_
 dsimp only
 refine aw_loopD (X := Nat) (fun k => k ≤ a.length ∧ a.take k = b.take k) (fun k => a.length - k) (fun k => [(5, .v (.int .i64 (k : Int)))]) (fun k G' => G') 0 rfl ?_ ?_ (fun _ _ h => h) ?_ ?_ ?_
 ·exact ⟨by simp, by simp⟩
 ·exact zF
 ·rintro k hI
  exact zL
 ·exact fun _ _ _ _ h => .inl h
 rintro k hI
 dsimp only at hI ⊢
 refine yS fun _ K7 => ?_
 refine yS fun _ K8 => ?_
 refine yR ?_
 refine yM rfl rfl ?_
 refine yM rfl rfl ?_
 refine aops_n rfl (n_len' rfl rfl (List.length_map _)) ?_
 refine aops_n rfl (n_lss rfl rfl rfl) ?_
 refine yN ?_
 dsimp only [St.put]
 refine K8 _ ?_
 refine aw_cond rfl (fun hc => ?_) (fun hc => ?_)
 ·replace hc := of_decide_eq_true hc
  obtain ⟨x, hx⟩ : ∃ x, a[k]? = some x := some_of_lt (by omega)
  obtain ⟨y, hy⟩ : ∃ y, b[k]? = some y := some_of_lt (by omega)
  refine aw_skip ?_
  refine K7 _ ?_
  refine yS fun _ K9 => ?_
  refine aw_block ?_
  refine yS fun _ K10 => ?_
  refine aw_draw [(0, none), (1, none), (2, none), (3, none), (4, none), (5, none), (6, none), (7, none), (8, none)] (fun i => [].contains i) (fun i => [].contains i) (fun i => [0, 1, 2, 4, 5, 6, 8].contains i) [] (by kernel_rfl) (by kernel_rfl) ?_
  refine xM rfl rfl rfl rfl rfl ?_
  refine xM rfl rfl rfl rfl rfl ?_
  try dsimp only [St.put]
  refine acan1_n rfl rfl rfl rfl (n_indexAddr rfl rfl rfl rfl (map_get (by assumption)) (Enc.len _)) ?_
  try dsimp only [St.put]
  refine acan1_s rfl rfl rfl rfl (s_load rfl rfl) ?_
  refine xM rfl rfl rfl rfl rfl ?_
  refine xM rfl rfl rfl rfl rfl ?_
  try dsimp only [St.put]
  refine acan1_n rfl rfl rfl rfl (n_indexAddr rfl rfl rfl rfl (map_get (by assumption)) (Enc.len _)) ?_
  try dsimp only [St.put]
  refine acan1_s rfl rfl rfl rfl (s_load rfl rfl) ?_
  refine acan1_n rfl rfl rfl rfl (n_strne rfl rfl rfl) ?_
  refine acan1_nil ?_
  dsimp only [St.put]
  refine K10 _ ?_
  refine aw_cond rfl (fun hc => ?_) (fun hc => ?_)
  ·try replace hc := of_decide_eq_true hc
   refine yS fun _ K11 => ?_
   refine yR ?_
   refine yA rfl rfl ?_
   refine yN ?_
   dsimp only [St.put]
   refine K11 _ ?_
   refine aw_ret ?_
   refine ends_1 rfl (by constructor) zN zS ?_
   exact vb (by
    have := ne_of_get hx hy (nd_t hc)
    simp [this])
  have hxy := nd_f hc
  refine aw_skip ?_
  refine K9 _ ?_
  refine yR ?_
  refine yM rfl rfl ?_
  refine aops_n rfl (n_add rfl rfl rfl (by omega)) ?_
  refine yA rfl rfl ?_
  refine yN ?_
  dsimp only [St.put]
  exact ⟨k + 1, by omega, ⟨by omega, take_succ_eq hI.2 hx (hxy ▸ hy)⟩, ⟨⟨rfl, rfl⟩, zF, zB, zN, zX⟩⟩
 try replace hc := of_decide_eq_false hc
 refine aw_exit ?_
 refine K5 _ ?_
 refine yS fun _ K12 => ?_
 refine yR ?_
 refine yA rfl rfl ?_
 refine yN ?_
 dsimp only [St.put]
 refine K12 _ ?_
 refine aw_ret ?_
 refine ends_1 rfl (by constructor) zN zS ?_
 exact vb (by
  have h1 := hI.2
  rw [take_all (by omega), take_all (by omega)] at h1
  simp [h1])
end Go.Proofs.YtejhjijbgceklaaGreatDoor
namespace Go.AB
open Go Go.RowKit
open Go.AB.Enc (cells)
open Go.PB (Chap TextD PlaceD ReadingD CopyD WayD)
/-- Data that are read as they are. -/
class FlatV (α : Type) [Enc α] where
 vals : α → List Value
 eq : ∀ x, cells x = (vals x).map C.v
theorem FlatV.agg {α : Type} [Enc α] [FlatV α] {E : Env} {w : World} {x : α} {v : Value} (h : R E w (.agg (cells x)) v) : v = .agg (FlatV.vals x).toArray := by
 rw [FlatV.eq] at h
 obtain ⟨vs, rfl, h1, _⟩ := h.agg_inv
 congr 2
 apply List.ext_getElem?
 intro j
 have hl := h1.1
 simp only [List.length_map] at hl
 by_cases hj : j < (FlatV.vals x).length
 ·have h2 := h1.2 j (.v (FlatV.vals x)[j]) vs[j] (by rw [List.getElem?_map, List.getElem?_eq_getElem hj]; rfl) (List.getElem?_eq_getElem (by omega))
  rw [List.getElem?_eq_getElem (by omega), List.getElem?_eq_getElem hj, h2.v_inv]
 ·rw [List.getElem?_eq_none (by omega), List.getElem?_eq_none (by omega)]
class EqT (P : Program) (t : TypeId) (α : Type) [Enc α] [FlatV α] [DecidableEq α] : Prop where
 guard : ∀ (op : BinOp) (w : World) (X Y : Operand) (xs ys : Array Value), (eqGuard op t X Y (.agg xs) (.agg ys)).run P w = .ok () w
 same : ∀ (w : World) (x y : α), (Op.equalIn 10000 t (.agg (FlatV.vals x).toArray) (.agg (FlatV.vals y).toArray)).run P w = .ok (decide (x = y)) w
section
variable {P : Program} {o : Oper} {st : St}
theorem n_agg_eql {α : Type} [Enc α] [FlatV α] [DecidableEq α] {t t' : TypeId} [EqT P t α] {X Y : Operand} {x y : α} (ho : o.op = .binOp .eql t X Y t') (hx : evC st X = .agg (cells x)) (hy : evC st Y = .agg (cells y)) : NStep P o st (.v (.bool (decide (x = y)))) := fun E w a hs => by
 have e1 := (hx ▸ hs.ev X).agg_inv
 have e1 := FlatV.agg (hx ▸ hs.ev X)
 have e2 := FlatV.agg (hy ▸ hs.ev Y)
 refine ⟨_, .v rfl, fun w' => ?_⟩
 have hg := EqT.guard (P := P) (t := t) (α := α) .eql w' X Y (FlatV.vals x).toArray (FlatV.vals y).toArray
 have hq := EqT.same (P := P) (t := t) w' x y
 have hb : binOp .eql t (.agg (FlatV.vals x).toArray) (.agg (FlatV.vals y).toArray) = (do pure (.bool (← Op.equal t (.agg (FlatV.vals x).toArray) (.agg (FlatV.vals y).toArray))) : Sem Value) := rfl
 simp only [execOp, ho, e1, e2, Sem.run_bind, hg, Result.andThen_ok, hb, Op.equal, Op.maxDepth, hq]
 rfl
theorem n_agg_neq {α : Type} [Enc α] [FlatV α] [DecidableEq α] {t t' : TypeId} [EqT P t α] {X Y : Operand} {x y : α} (ho : o.op = .binOp .neq t X Y t') (hx : evC st X = .agg (cells x)) (hy : evC st Y = .agg (cells y)) : NStep P o st (.v (.bool (!decide (x = y)))) := fun E w a hs => by
 have e1 := FlatV.agg (hx ▸ hs.ev X)
 have e2 := FlatV.agg (hy ▸ hs.ev Y)
 refine ⟨_, .v rfl, fun w' => ?_⟩
 have hg := EqT.guard (P := P) (t := t) (α := α) .neq w' X Y (FlatV.vals x).toArray (FlatV.vals y).toArray
 have hq := EqT.same (P := P) (t := t) w' x y
 have hb : binOp .neq t (.agg (FlatV.vals x).toArray) (.agg (FlatV.vals y).toArray) = (do pure (.bool (!(← Op.equal t (.agg (FlatV.vals x).toArray) (.agg (FlatV.vals y).toArray)))) : Sem Value) := rfl
 simp only [execOp, ho, e1, e2, Sem.run_bind, hg, Result.andThen_ok, hb, Op.equal, Op.maxDepth, hq]
 rfl
end
instance : FlatV PlaceD := ⟨fun x => [.int .i64 x.ch, .int .i64 x.ln, .int .i64 x.wd], fun _ => rfl⟩
instance : FlatV ReadingD := ⟨fun x => [.int .i64 x.pl.ch, .int .i64 x.pl.ln, .int .i64 x.pl.wd, .int .u8 x.kind, .string x.word], fun _ => rfl⟩
end Go.AB

namespace Go.Proofs.YtejhjijbgceklaaGreatDoor
open Go Go.RowKit Go.AB
open Go.AB.Enc (cells)
open Go.PB (Chap TextD PlaceD ReadingD CopyD WayD)
theorem uf_place : Tryz.prog.underlying 45 = some (.struct (Tryz.prog.fieldsOf 45)) := by kernel_rfl
theorem sh_place : Tryz.prog.stoodInHeld 45 = false := by kernel_rfl
instance : EqT Tryz.prog 45 PlaceD where
 guard op w x y xs ys := run_eqGuard_agg w op _ x y xs ys (by kernel_rfl)
 same w x y := by
  obtain ⟨a, b, c⟩ := x
  obtain ⟨a', b', c'⟩ := y
  simp only [FlatV.vals]
  rw [run_equalIn_agg _ _ _ _ _ uf_place sh_place]
  by_cases h1 : a = a' <;> by_cases h2 : b = b' <;> by_cases h3 : c = c' <;> simp [go_sem, h1, h2, h3]
theorem uf_reading : Tryz.prog.underlying 47 = some (.struct (Tryz.prog.fieldsOf 47)) := by kernel_rfl
theorem sh_reading : Tryz.prog.stoodInHeld 47 = false := by kernel_rfl
@[go_sem ↓] theorem same_place (w : World) (a b c a' b' c' : Int) :
  (Op.equalIn 9999 45 (.agg #[.int .i64 a, .int .i64 b, .int .i64 c]) (.agg #[.int .i64 a', .int .i64 b', .int .i64 c'])).run Tryz.prog w = .ok (decide (PlaceD.mk a b c = PlaceD.mk a' b' c')) w := by
 rw [run_equalIn_agg _ _ _ _ _ uf_place sh_place]
 by_cases h1 : a = a' <;> by_cases h2 : b = b' <;> by_cases h3 : c = c' <;> simp [go_sem, h1, h2, h3]
instance : EqT Tryz.prog 47 ReadingD where
 guard op w x y xs ys := run_eqGuard_agg w op _ x y xs ys (by kernel_rfl)
 same w x y := by
  obtain ⟨⟨a, b, c⟩, k, s⟩ := x
  obtain ⟨⟨a', b', c'⟩, k', s'⟩ := y
  simp only [FlatV.vals]
  rw [run_equalIn_agg _ _ _ _ _ uf_reading sh_reading]
  by_cases h5 : s = s'
  ·subst h5
   by_cases h1 : a = a' <;> by_cases h2 : b = b' <;> by_cases h3 : c = c' <;> by_cases h4 : k = k' <;> simp [go_sem, h1, h2, h3, h4]
  ·have h6 : ¬ s.toList = s'.toList := fun e => h5 (toList_inj e)
   by_cases h1 : a = a' <;> by_cases h2 : b = b' <;> by_cases h3 : c = c' <;> by_cases h4 : k = k' <;> simp [go_sem, h1, h2, h3, h4, h5, h6]
end Go.Proofs.YtejhjijbgceklaaGreatDoor
namespace Go.Proofs.YtejhjijbgceklaaGreatDoor
set_option maxRecDepth 10000
open Go.RowKit Go.AB
open Go.PB (Chap TextD PlaceD ReadingD CopyD WayD)

theorem SameCopy_pure (a b : CopyD) : Pure Tryz.prog 29 [val a, val b] (.v (.bool (decide (a = b)))) := by
 refine pure_of_body Tryz.func29 rfl (fun m => .v) fun G nx => ?_
 simp only [Tryz.ntmps29, List.length_cons, List.length_nil, Nat.reduceAdd, Nat.reduceSub]
 refine aw_lt fun hlt => ?_
 dsimp only at hlt
 refine aw_fit 0 (fun hf => ?_)
 have hf' : a.rs.length ≤ 9223372036854775807 := by
  have := fit_agg.1 hf _ (List.mem_cons_of_mem _ (List.mem_cons_self ..))
  exact (fit_lst.1 this).1
 clear hf
 refine yS fun _ K1 => ?_
 refine yR ?_
 try dsimp only [St.put]
 refine yB rfl rfl rfl ?_
 try dsimp only [St.put]
 refine yB rfl rfl rfl ?_
 refine yA rfl rfl ?_
 refine yN ?_
 dsimp only [St.put]
 refine K1 _ ?_
 refine yS fun _ K2 => ?_
 refine yS fun _ K3 => ?_
 refine yR ?_
 refine yF rfl rfl rfl rfl ?_
 refine yL rfl rfl rfl ?_
 refine yF rfl rfl rfl rfl ?_
 refine yL rfl rfl rfl ?_
 refine aops_n rfl (n_neq rfl rfl rfl) ?_
 refine aops_split (fun hs => ?_) (fun hs => ?_)
 ·try replace hs := of_decide_eq_true hs
  refine yM rfl rfl ?_
  refine yK rfl ?_
  refine yK rfl ?_
  refine yK rfl ?_
  refine yK rfl ?_
  refine yK rfl ?_
  refine yK rfl ?_
  refine yK rfl ?_
  refine aops_n rfl (n_pt rfl rfl (by constructor)) ?_
  refine yN ?_
  dsimp only [St.put]
  refine K3 _ ?_
  refine aw_cond rfl (fun _ => ?_) (fun h => by cases h)
  refine yS fun _ K4 => ?_
  refine yR ?_
  refine yA rfl rfl ?_
  refine yN ?_
  dsimp only [St.put]
  refine K4 _ ?_
  refine aw_ret ?_
  refine ends_1 rfl (by constructor) zN zS ?_
  exact vb (by
   have : a ≠ b := fun e => by subst e; simp_all
   simp [this])
 try replace hs := of_decide_eq_false hs
 refine yM rfl rfl ?_
 refine yF rfl rfl rfl rfl ?_
 refine yL rfl rfl rfl ?_
 refine aops_n rfl (n_len' rfl rfl (List.length_map _)) ?_
 refine yF rfl rfl rfl rfl ?_
 refine yL rfl rfl rfl ?_
 refine aops_n rfl (n_len' rfl rfl (List.length_map _)) ?_
 refine aops_n rfl (n_neq rfl rfl rfl) ?_
 refine aops_n rfl (n_pf rfl rfl (by constructor)) ?_
 refine yN ?_
 dsimp only [St.put]
 refine K3 _ ?_
 refine aw_cond rfl (fun hc => ?_) (fun hc => ?_)
 ·try replace hc := of_decide_eq_true hc
  refine yS fun _ K5 => ?_
  refine yR ?_
  refine yA rfl rfl ?_
  refine yN ?_
  dsimp only [St.put]
  refine K5 _ ?_
  refine aw_ret ?_
  refine ends_1 rfl (by constructor) zN zS ?_
  exact vb (by
   have : a ≠ b := fun e => by subst e; simp_all
   simp [this])
 replace hc := nd_f hc
 replace hs := nd_f hs
 refine aw_skip ?_
 refine K2 _ ?_
 refine yS fun _ K6 => ?_
 refine yS fun _ K7 => ?_
 refine yR ?_
 refine yA rfl rfl ?_
 refine yN ?_
 dsimp only [St.put]
 refine K7 _ ?_
 refine aw_block ?_
 refine aw_wipe 6 ?_
 simp only [firsts, getA, Nat.reduceAdd, List.getD_cons_zero, List.getD_cons_succ, List.getD_nil, natBeq, Nat.reduceBEq, cond_true, cond_false]
 refine aw_forget (G) zX ?_
 dsimp only
 refine aw_loopD (X := Nat) (fun k => k ≤ a.rs.length ∧ a.rs.take k = b.rs.take k) (fun k => a.rs.length - k) (fun k => [(5, .v (.int .i64 (k : Int)))]) (fun k G' => G') 0 rfl ?_ ?_ (fun _ _ h => h) ?_ ?_ ?_
 ·exact ⟨by simp, by simp⟩
 ·exact zF
 ·rintro k hI
  exact zL
 ·exact fun _ _ _ _ h => .inl h
 rintro k hI
 dsimp only at hI ⊢
 refine yS fun _ K8 => ?_
 refine yS fun _ K9 => ?_
 refine yR ?_
 refine yM rfl rfl ?_
 refine yF rfl rfl rfl rfl ?_
 refine yL rfl rfl rfl ?_
 refine aops_n rfl (n_len' rfl rfl (List.length_map _)) ?_
 refine aops_n rfl (n_lss rfl rfl rfl) ?_
 refine yN ?_
 dsimp only [St.put]
 refine K9 _ ?_
 refine aw_cond rfl (fun hc => ?_) (fun hc => ?_)
 ·replace hc := of_decide_eq_true hc
  obtain ⟨x, hx⟩ : ∃ x, a.rs[k]? = some x := some_of_lt (by omega)
  obtain ⟨y, hy⟩ : ∃ y, b.rs[k]? = some y := some_of_lt (by omega)
  refine aw_skip ?_
  refine K8 _ ?_
  refine yS fun _ K10 => ?_
  refine aw_block ?_
  refine yS fun _ K11 => ?_
  refine aw_draw [(0, none), (1, none), (2, none), (3, none), (4, none), (5, none), (6, none), (7, none), (8, none), (9, none), (10, none)] (fun i => [].contains i) (fun i => [].contains i) (fun i => [0, 2, 3, 5, 7, 8, 10].contains i) [] (by kernel_rfl) (by kernel_rfl) ?_
  refine acan1_n rfl rfl rfl rfl (n_fieldAddr' rfl rfl rfl) ?_
  try dsimp only [St.put]
  refine acan1_s rfl rfl rfl rfl (s_load rfl rfl) ?_
  refine xM rfl rfl rfl rfl rfl ?_
  try dsimp only [St.put]
  refine acan1_n rfl rfl rfl rfl (n_indexAddr rfl rfl rfl rfl (map_get (by assumption)) (Enc.len _)) ?_
  try dsimp only [St.put]
  refine acan1_s rfl rfl rfl rfl (s_load_agg' rfl rfl (Enc.len _)) ?_
  refine acan1_n rfl rfl rfl rfl (n_fieldAddr' rfl rfl rfl) ?_
  try dsimp only [St.put]
  refine acan1_s rfl rfl rfl rfl (s_load rfl rfl) ?_
  refine xM rfl rfl rfl rfl rfl ?_
  try dsimp only [St.put]
  refine acan1_n rfl rfl rfl rfl (n_indexAddr rfl rfl rfl rfl (map_get (by assumption)) (Enc.len _)) ?_
  try dsimp only [St.put]
  refine acan1_s rfl rfl rfl rfl (s_load_agg' rfl rfl (Enc.len _)) ?_
  refine acan1_n rfl rfl rfl rfl (n_agg_neq rfl rfl rfl) ?_
  refine acan1_nil ?_
  dsimp only [St.put]
  refine K11 _ ?_
  refine aw_cond rfl (fun hc => ?_) (fun hc => ?_)
  ·try replace hc := of_decide_eq_true hc
   refine yS fun _ K12 => ?_
   refine yR ?_
   refine yA rfl rfl ?_
   refine yN ?_
   dsimp only [St.put]
   refine K12 _ ?_
   refine aw_ret ?_
   refine ends_1 rfl (by constructor) zN zS ?_
   exact vb (by
    have := ne_of_get hx hy (nd_t hc)
    have h2 : a ≠ b := fun e => this (congrArg CopyD.rs e)
    simp [h2])
  have hxy := nd_f hc
  refine aw_skip ?_
  refine K10 _ ?_
  refine yR ?_
  refine yM rfl rfl ?_
  refine aops_n rfl (n_add rfl rfl rfl (by omega)) ?_
  refine yA rfl rfl ?_
  refine yN ?_
  dsimp only [St.put]
  exact ⟨k + 1, by omega, ⟨by omega, take_succ_eq hI.2 hx (hxy ▸ hy)⟩, ⟨⟨rfl, rfl⟩, zF, zB, zN, zX⟩⟩
 try replace hc := of_decide_eq_false hc
 refine aw_exit ?_
 refine K6 _ ?_
 refine yS fun _ K13 => ?_
 refine yR ?_
 refine yA rfl rfl ?_
 refine yN ?_
 dsimp only [St.put]
 refine K13 _ ?_
 refine aw_ret ?_
 refine ends_1 rfl (by constructor) zN zS ?_
 exact vb (by
  have h1 := hI.2
  rw [take_all (by omega), take_all (by omega)] at h1
  cases a; cases b; simp_all)

structure Small (t : TextD) : Prop where
 len : t.length ≤ 10
 lines : ∀ c ∈ t, c.lines.length ≤ 15
 words : ∀ c ∈ t, ∀ l ∈ c.lines, l.length ≤ 15
 size : ∀ c ∈ t, ∀ l ∈ c.lines, ∀ s ∈ l, s.size ≤ 40
end Go.Proofs.YtejhjijbgceklaaGreatDoor
namespace Go.Proofs.YtejhjijbgceklaaGreatDoor
set_option maxRecDepth 10000
open Go.RowKit Go.AB
open Go.PB (Chap TextD PlaceD ReadingD CopyD WayD)

theorem Same_pure (a b : TextD) : Pure Tryz.prog 15 [textC a, textC b] (.v (.bool (decide (a = b)))) := by
 refine pure_of_body Tryz.func15 rfl (fun m => .v) fun G nx => ?_
 simp only [Tryz.ntmps15, List.length_cons, List.length_nil, Nat.reduceAdd, Nat.reduceSub]
 refine aw_lt fun hlt => ?_
 dsimp only at hlt
 refine aw_fit 0 (fun hf => ?_)
 replace hf := text_fit hf
 have hf0 := hf.len
 refine yS fun _ K1 => ?_
 refine yR ?_
 try dsimp only [St.put]
 refine yB rfl rfl rfl ?_
 try dsimp only [St.put]
 refine yB rfl rfl rfl ?_
 refine yA rfl rfl ?_
 refine yN ?_
 dsimp only [St.put]
 refine K1 _ ?_
 refine yS fun _ K2 => ?_
 refine yS fun _ K3 => ?_
 refine yR ?_
 refine yF rfl rfl rfl rfl ?_
 refine yL rfl rfl rfl ?_
 refine aops_n rfl (n_len' rfl rfl (List.length_map _)) ?_
 refine yF rfl rfl rfl rfl ?_
 refine yL rfl rfl rfl ?_
 refine aops_n rfl (n_len' rfl rfl (List.length_map _)) ?_
 refine aops_n rfl (n_neq rfl rfl rfl) ?_
 refine yN ?_
 dsimp only [St.put]
 refine K3 _ ?_
 refine aw_cond rfl (fun hc => ?_) (fun hc => ?_)
 ·try replace hc := of_decide_eq_true hc
  refine yS fun _ K4 => ?_
  refine yR ?_
  refine yA rfl rfl ?_
  refine yN ?_
  dsimp only [St.put]
  refine K4 _ ?_
  refine aw_ret ?_
  refine ends_1 rfl (by constructor) zN zS ?_
  exact vb (by
   have : a ≠ b := fun e => by subst e; simp at hc
   simp [this])
 have hl := nd_f hc
 refine aw_skip ?_
 refine K2 _ ?_
 refine yS fun _ K5 => ?_
 refine yS fun _ K6 => ?_
 refine yR ?_
 refine yA rfl rfl ?_
 refine yN ?_
 dsimp only [St.put]
 refine K6 _ ?_
 refine aw_block ?_
 refine aw_wipe 9 ?_
 simp only [firsts, getA, Nat.reduceAdd, List.getD_cons_zero, List.getD_cons_succ, List.getD_nil, natBeq, Nat.reduceBEq, cond_true, cond_false]
 refine aw_forget (G) zX ?_
 dsimp only
 refine aw_loopD (X := Nat) (fun k => k ≤ a.length ∧ a.take k = b.take k) (fun k => a.length - k) (fun k => [(5, .v (.int .i64 (k : Int))), (6, .any), (7, .any), (8, .any)]) (fun k G' => G') 0 rfl ?_ ?_ (fun _ _ h => h) ?_ ?_ ?_
 ·exact ⟨by simp, by simp⟩
 ·exact zF
 ·rintro k hI
  exact zL
 ·exact fun _ _ _ _ h => .inl h
 rintro k hI
 dsimp only at hI ⊢
 refine yS fun _ K7 => ?_
 refine yS fun _ K8 => ?_
 refine yR ?_
 refine yM rfl rfl ?_
 refine yF rfl rfl rfl rfl ?_
 refine yL rfl rfl rfl ?_
 refine aops_n rfl (n_len' rfl rfl (List.length_map _)) ?_
 refine aops_n rfl (n_lss rfl rfl rfl) ?_
 refine yN ?_
 dsimp only [St.put]
 refine K8 _ ?_
 refine aw_cond rfl (fun hc => ?_) (fun hc => ?_)
 ·replace hc := of_decide_eq_true hc
  obtain ⟨x, hx⟩ : ∃ x, a[k]? = some x := some_of_lt (by omega)
  obtain ⟨y, hy⟩ : ∃ y, b[k]? = some y := some_of_lt (by omega)
  have hf1 := hf.lines x (mem_of_get hx)
  refine aw_skip ?_
  refine K7 _ ?_
  refine yS fun _ K9 => ?_
  refine aw_block ?_
  refine yS fun _ K10 => ?_
  refine aw_draw [(0, none), (1, none), (2, none), (3, none), (4, none), (5, none), (6, none), (7, none), (8, none), (9, none), (10, some 11), (12, none), (13, none)] (fun i => [13].contains i) (fun i => [10, 11, 12, 13].contains i) (fun i => [0, 2, 3, 5, 7, 8].contains i) [] (by kernel_rfl) (by kernel_rfl) ?_
  refine acan1_n rfl rfl rfl rfl (n_fieldAddr' rfl rfl rfl) ?_
  try dsimp only [St.put]
  refine acan1_s rfl rfl rfl rfl (s_load rfl rfl) ?_
  refine xM rfl rfl rfl rfl rfl ?_
  try dsimp only [St.put]
  refine acan1_n rfl rfl rfl rfl (n_indexAddr rfl rfl rfl rfl (map_get (by assumption)) (Enc.len _)) ?_
  try dsimp only [St.put]
  refine acan1_s rfl rfl rfl rfl (s_load_agg' rfl rfl (Enc.len _)) ?_
  refine acan1_n rfl rfl rfl rfl (n_fieldAddr' rfl rfl rfl) ?_
  try dsimp only [St.put]
  refine acan1_s rfl rfl rfl rfl (s_load rfl rfl) ?_
  refine xM rfl rfl rfl rfl rfl ?_
  try dsimp only [St.put]
  refine acan1_n rfl rfl rfl rfl (n_indexAddr rfl rfl rfl rfl (map_get (by assumption)) (Enc.len _)) ?_
  try dsimp only [St.put]
  refine acan1_s rfl rfl rfl rfl (s_load_agg' rfl rfl (Enc.len _)) ?_
  refine acan1_two ?_
  refine acan2_allocs rfl rfl rfl rfl rfl rfl rfl rfl (by decide) (by simp) ?_
  try dsimp only [St.put]
  refine acan2_e rfl rfl rfl (e_store_all rfl rfl rfl zG rfl rfl (by rfl) ⟨zD, ?_⟩)
  try dsimp only [St.put]
  refine acan2_late rfl rfl rfl rfl (e_store_all rfl rfl rfl zG rfl rfl (by rfl) ?_)
  refine acan2_nil ?_
  dsimp only [St.put]
  refine K10 _ ?_
  refine aw_commitD (i := 6) rfl zG (by first | exact List.cons_ne_nil _ _ | (simp; done) | (simp [putAt]; done)) ?_
  refine aw_commitD (i := 7) rfl zG (by first | exact List.cons_ne_nil _ _ | (simp; done) | (simp [putAt]; done)) ?_
  dsimp only
  refine yS fun _ K11 => ?_
  refine yS fun _ K12 => ?_
  refine yR ?_
  refine yF rfl rfl rfl rfl ?_
  refine yL rfl rfl rfl ?_
  refine yF rfl rfl rfl rfl ?_
  refine yL rfl rfl rfl ?_
  refine aops_n rfl (n_neq rfl rfl rfl) ?_
  refine aops_split (fun hs => ?_) (fun hs => ?_)
  ·try replace hs := of_decide_eq_true hs
   refine yM rfl rfl ?_
   refine yK rfl ?_
   refine yK rfl ?_
   refine yK rfl ?_
   refine yK rfl ?_
   refine yK rfl ?_
   refine yK rfl ?_
   refine yK rfl ?_
   refine aops_n rfl (n_pt rfl rfl (by constructor)) ?_
   refine yN ?_
   dsimp only [St.put]
   refine K12 _ ?_
   refine aw_cond rfl (fun _ => ?_) (fun h => by cases h)
   refine yS fun _ K13 => ?_
   refine yR ?_
   refine yA rfl rfl ?_
   refine yN ?_
   dsimp only [St.put]
   refine K13 _ ?_
   refine aw_ret ?_
   refine ends_1 rfl (by constructor) zN zS ?_
   exact vb (by
    have := ne_of_get hx hy (fun e => by subst e; simp_all)
    simp [this])
  try replace hs := of_decide_eq_false hs
  refine yM rfl rfl ?_
  refine yF rfl rfl rfl rfl ?_
  refine yL rfl rfl rfl ?_
  refine aops_n rfl (n_len' rfl rfl (List.length_map _)) ?_
  refine yF rfl rfl rfl rfl ?_
  refine yL rfl rfl rfl ?_
  refine aops_n rfl (n_len' rfl rfl (List.length_map _)) ?_
  refine aops_n rfl (n_neq rfl rfl rfl) ?_
  refine aops_n rfl (n_pf rfl rfl (by constructor)) ?_
  refine yN ?_
  dsimp only [St.put]
  refine K12 _ ?_
  refine aw_cond rfl (fun hc => ?_) (fun hc => ?_)
  ·try replace hc := of_decide_eq_true hc
   refine yS fun _ K14 => ?_
   refine yR ?_
   refine yA rfl rfl ?_
   refine yN ?_
   dsimp only [St.put]
   refine K14 _ ?_
   refine aw_ret ?_
   refine ends_1 rfl (by constructor) zN zS ?_
   exact vb (by
    have := ne_of_get hx hy (fun e => by subst e; simp_all)
    simp [this])
  have hid := nd_f hs
  have hll := nd_f hc
  refine aw_skip ?_
  refine K11 _ ?_
  refine yS fun _ K15 => ?_
  refine yR ?_
  refine yA rfl rfl ?_
  refine yN ?_
  dsimp only [St.put]
  refine K15 _ ?_
  refine aw_block ?_
  refine aw_wipe 9 ?_
  simp only [firsts, getA, Nat.reduceAdd, List.getD_cons_zero, List.getD_cons_succ, List.getD_nil, natBeq, Nat.reduceBEq, cond_true, cond_false]
  refine aw_forget (G) zX ?_
  dsimp only
  refine aw_loopD (X := Nat) (fun n => n ≤ x.lines.length ∧ x.lines.take n = y.lines.take n) (fun n => x.lines.length - n) (fun n => [(8, .v (.int .i64 (n : Int)))]) (fun n G' => G') 0 rfl ?_ ?_ (fun _ _ h => h) ?_ ?_ ?_
  ·exact ⟨by simp, by simp⟩
  ·exact zF
  ·rintro n hI
   exact zL
  ·exact fun _ _ _ _ h => .inl h
  rintro n hJ
  dsimp only at hJ ⊢
  refine yS fun _ K16 => ?_
  refine yS fun _ K17 => ?_
  refine yR ?_
  refine yM rfl rfl ?_
  refine yF rfl rfl rfl rfl ?_
  refine yL rfl rfl rfl ?_
  refine aops_n rfl (n_len' rfl rfl (List.length_map _)) ?_
  refine aops_n rfl (n_lss rfl rfl rfl) ?_
  refine yN ?_
  dsimp only [St.put]
  refine K17 _ ?_
  refine aw_cond rfl (fun hc => ?_) (fun hc => ?_)
  ·replace hc := of_decide_eq_true hc
   obtain ⟨lx, hlx⟩ : ∃ l, x.lines[n]? = some l := some_of_lt (by omega)
   obtain ⟨ly, hly⟩ : ∃ l, y.lines[n]? = some l := some_of_lt (by omega)
   refine aw_skip ?_
   refine K16 _ ?_
   refine yS fun _ K18 => ?_
   refine aw_block ?_
   refine yS fun _ K19 => ?_
   refine aw_draw [(0, none), (1, none), (2, none), (3, none), (4, none), (5, none), (6, none), (7, none), (8, none), (9, none), (10, none), (11, none)] (fun i => [10].contains i) (fun i => [10].contains i) (fun i => [0, 2, 3, 5, 7, 8, 11].contains i) [] (by kernel_rfl) (by kernel_rfl) ?_
   refine acan1_n rfl rfl rfl rfl (n_fieldAddr' rfl rfl rfl) ?_
   try dsimp only [St.put]
   refine acan1_s rfl rfl rfl rfl (s_load rfl rfl) ?_
   refine xM rfl rfl rfl rfl rfl ?_
   try dsimp only [St.put]
   refine acan1_n rfl rfl rfl rfl (n_indexAddr rfl rfl rfl rfl (map_get (by assumption)) (Enc.len _)) ?_
   try dsimp only [St.put]
   refine acan1_s rfl rfl rfl rfl (s_load rfl rfl) ?_
   refine acan1_n rfl rfl rfl rfl (n_fieldAddr' rfl rfl rfl) ?_
   try dsimp only [St.put]
   refine acan1_s rfl rfl rfl rfl (s_load rfl rfl) ?_
   refine xM rfl rfl rfl rfl rfl ?_
   try dsimp only [St.put]
   refine acan1_n rfl rfl rfl rfl (n_indexAddr rfl rfl rfl rfl (map_get (by assumption)) (Enc.len _)) ?_
   try dsimp only [St.put]
   refine acan1_s rfl rfl rfl rfl (s_load rfl rfl) ?_
   refine acan1_two ?_
   try dsimp only [St.put]
   refine acan2_late rfl rfl rfl rfl (e_call_pure rfl rfl rfl (SameWords_pure _ _) ?_)
   refine acan2_n rfl rfl rfl rfl (n_not rfl rfl) ?_
   refine acan2_nil ?_
   dsimp only [St.put]
   refine K19 _ ?_
   refine aw_cond rfl (fun hc => ?_) (fun hc => ?_)
   ·try replace hc := of_decide_eq_true hc
    refine yS fun _ K20 => ?_
    refine yR ?_
    refine yA rfl rfl ?_
    refine yN ?_
    dsimp only [St.put]
    refine K20 _ ?_
    refine aw_ret ?_
    refine ends_1 rfl (by constructor) zN zS ?_
    exact vb (by
     have h1 := ne_of_get hlx hly (by simpa using hc)
     have := ne_of_get hx hy (fun e => by subst e; exact h1 rfl)
     simp [this])
   try replace hc := of_decide_eq_false hc
   refine aw_skip ?_
   refine K18 _ ?_
   refine yR ?_
   refine yM rfl rfl ?_
   refine aops_n rfl (n_add rfl rfl rfl (by omega)) ?_
   refine yA rfl rfl ?_
   refine yN ?_
   dsimp only [St.put]
   exact ⟨n + 1, by omega, ⟨by omega, take_succ_eq hJ.2 hlx ((by simpa using hc : lx = ly) ▸ hly)⟩, ⟨⟨rfl, rfl⟩, zF, zB, zN, zX⟩⟩
  try replace hc := of_decide_eq_false hc
  refine aw_exit ?_
  refine K9 _ ?_
  refine yR ?_
  refine yM rfl rfl ?_
  refine aops_n rfl (n_add rfl rfl rfl (by omega)) ?_
  refine yA rfl rfl ?_
  refine yN ?_
  dsimp only [St.put]
  exact ⟨k + 1, by omega, ⟨by omega, take_succ_eq hI.2 hx ((show x = y by
   have h1 := hJ.2
   rw [take_all (by omega), take_all (by omega)] at h1
   cases x; cases y; simp_all) ▸ hy)⟩, ⟨⟨rfl, rfl⟩, zF, zB, zN, zX⟩⟩
 try replace hc := of_decide_eq_false hc
 refine aw_exit ?_
 refine K5 _ ?_
 refine yS fun _ K21 => ?_
 refine yR ?_
 refine yA rfl rfl ?_
 refine yN ?_
 dsimp only [St.put]
 refine K21 _ ?_
 refine aw_ret ?_
 refine ends_1 rfl (by constructor) zN zS ?_
 exact vb (by
  have h1 := hI.2
  rw [take_all (by omega), take_all (by omega)] at h1
  simp [h1])
end Go.Proofs.YtejhjijbgceklaaGreatDoor
namespace Go.Proofs.YtejhjijbgceklaaGreatDoor
set_option maxRecDepth 10000
open Go.RowKit Go.AB
open Go.PB (Chap TextD PlaceD ReadingD CopyD WayD)

end Go.Proofs.YtejhjijbgceklaaGreatDoor
namespace Go.Proofs.YtejhjijbgceklaaGreatDoor
set_option maxRecDepth 10000
open Go.RowKit Go.AB
open Go.AB.Enc (cells)
open Go.PB (Chap TextD PlaceD ReadingD CopyD WayD)

end Go.Proofs.YtejhjijbgceklaaGreatDoor
