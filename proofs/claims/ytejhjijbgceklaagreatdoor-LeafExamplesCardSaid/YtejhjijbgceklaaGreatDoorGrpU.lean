/-
  What the walks through the program rest on: values, states, steps, calls (LiFacts, LnDoubt, LrExamples).
-/
import Derived.Test.YtejhjijbgceklaaGreatDoorGrpQ
import Derived.Test.YtejhjijbgceklaaGreatDoorAbRem
import Derived.Test.YtejhjijbgceklaaGreatDoorGrpX
import Derived.Test.YtejhjijbgceklaaGreatDoorAbTwin
namespace Go.AB
open Go Go.RowKit
open Go.AB.Enc (cells)
open Go.PB (Chap TextD PlaceD ReadingD CopyD WayD)
section
variable {t : TextD} {i k : Nat} {x y : PW}
end
end Go.AB
namespace Go.Proofs.YtejhjijbgceklaaGreatDoor
set_option maxRecDepth 10000
open Go.RowKit Go.AB
open Go.AB.Enc (cells)
open Go.PB (Chap TextD PlaceD ReadingD CopyD WayD)
end Go.Proofs.YtejhjijbgceklaaGreatDoor
namespace Go.AB
open Go Go.RowKit
open Go.AB.Enc (cells)
open Go.PB (Chap TextD PlaceD ReadingD CopyD WayD)
end Go.AB
namespace Go.Proofs.YtejhjijbgceklaaGreatDoor
set_option maxRecDepth 10000
open Go.RowKit Go.AB
open Go.AB.Enc (cells)
open Go.PB (Chap TextD PlaceD ReadingD CopyD WayD)
end Go.Proofs.YtejhjijbgceklaaGreatDoor
namespace Go.AB
open Go Go.RowKit
open Go.AB.Enc (cells)
open Go.PB (Chap TextD PlaceD ReadingD CopyD WayD)
/-! ### Engine: slices that are made of zero values; what is owned within a row is laid for good -/
theorem flat_rep (cs : List C) : ∀ (k j : Nat), j < k * cs.length → (List.replicate k cs).flatten[j]? = cs[j % cs.length]?
 | 0, j, h => by omega
 | k + 1, j, h => by
  rw [List.replicate_succ, List.flatten_cons]
  by_cases hj : j < cs.length
  ·rw [List.getElem?_append_left hj, Nat.mod_eq_of_lt hj]
  rw [List.getElem?_append_right (by omega), flat_rep cs k (j - cs.length) (by rw [Nat.succ_mul] at h; omega), ← Nat.mod_eq_sub_mod (by omega)]
theorem flat_rep_len (cs : List C) (k : Nat) : (List.replicate k cs).flatten.length = k * cs.length := by
 induction k with
 | zero => simp
 | succ k ih => rw [List.replicate_succ, List.flatten_cons, List.length_append, ih, Nat.succ_mul, Nat.add_comm]
theorem Rs.wk {E : Env} {w : World} : ∀ {cs cs' : List C} {vs : List Value}, Wks cs cs' → Rs E w cs vs → Rs E w cs' vs := fun {cs cs' vs} hw h =>
 ⟨hw.len ▸ h.1, fun j c v hj hv => by
  obtain ⟨c0, h1, h2⟩ := hw.get j c hj
  exact h2.2 _ _ _ (h.2 j c0 v h1 hv)⟩
section
variable {P : Program} {o : Oper} {st : St} {K : St → Prop}
/-- one text behind another one -/
theorem n_stradd {xt yt : TypeId} {x y : Operand} {m n r : ByteArray} (ho : o.op = .binOp .add xt x y yt) (hx : evC st x = .v (.string m)) (hy : evC st y = .v (.string n)) (hr : m ++ n = r) (hok : okV (.string r) = true) : NStep P o st (.v (.string r)) :=
 n_str ho hx hy hok fun w => by
  subst hr
  have := okV_str.1 hok
  rw [ByteArray.size_append] at this
  simp only [Op.stringOp]
  rw [if_neg (by show ¬ ((m.size + n.size : Nat) : Int) > 9223372036854775807; omega)]
  rfl
theorem e_makeC {α : Type} [Enc α] (x : α) {t e : TypeId} {bytes : Nat} {zs : List C} {l c : Operand} {kl kc : IntKind} {nl nc : Int} {k : Nat} [AppT P t e (Enc.n α) bytes] [ZeroC P e zs] (ho : o.op = .makeSlice t l c) (hl : evC st l = .v (.int kl nl)) (hc : evC st c = .v (.int kc nc)) (hn : nl = (k : Int)) (hnc : nc = nl) (hw : Wks zs (cells x)) (hpos : 1 ≤ Enc.n α) (hb : bytes * k ≤ 281474976710656) (hm : k ≤ 9223372036854775807)
  (h : K (st.put o.dst (lst (List.replicate k x)))) : EStep P o st K :=
 estep_run fun E w a hs => by
  subst hn; subst hnc
  obtain ⟨ht, i, y, hie, hz, h1, h2, h3⟩ := AppT.spec (P := P) (t := t) (e := e) (sz := Enc.n α) (bytes := bytes)
  obtain ⟨v, hv, hr, hone⟩ := ZeroC.run (P := P) (t := e) E w
  have hvy : v = y := by
   have := hv w
   rw [show (zeroValue e).run P w = .ok y w by simp [zeroValue, typeInfo, hie, hz]] at this
   simpa using this.symm
  subst hvy
  have e1 := (hl ▸ hs.ev l).v_inv
  have e2 := (hc ▸ hs.ev c).v_inv
  have hbi : (i.bytes : Int) * (k : Int) ≤ 281474976710656 := by
   rw [h2, ← Int.natCast_mul]; omega
  have hrun := run_make (P := P) w t e i v ht hie hz kl kc k k (by omega) (Int.le_refl _) hbi (by omega)
  simp only [Int.toNat_natCast] at hrun
  have hrc : Rs E w (cells x) v.cells.toList := Rs.wk hw hr
  have hsz : v.cells.size = Enc.n α := h3
  obtain ⟨mc, hmc⟩ : ∃ mc, mc = madeCells v.cells (k * i.size) := ⟨_, rfl⟩
  have hmsz : mc.size = k * Enc.n α := by rw [hmc, size_madeCells, h1]
  have hmg : ∀ j u, mc.toList[j]? = some u → v.cells.toList[j % Enc.n α]? = some u := fun j u hu => by
   have hlt := (List.getElem?_eq_some_iff.1 hu).1
   rw [Array.length_toList, hmsz] at hlt
   have hm2 : j % v.cells.size < v.cells.size := Nat.mod_lt _ (by omega)
   rw [hmc] at hu
   simp only [madeCells, Array.getElem?_toList, Array.getElem?_map, Array.getElem?_range, h1, hlt, if_true, Option.map_some, Option.some.injEq] at hu
   rw [← hsz, Array.getElem?_toList, Array.getElem?_eq_getElem hm2, ← hu]
   simp [hm2]
  rw [← hmc] at hrun
  have hx0 : k * Enc.n α = 0 ∨ ∃ v, (w.alloc (.cells mc e)).cell? ⟨w.heap.size, 0, none⟩ = some v := by
   rcases alloc_cell0 w mc e with h0 | h0
   ·left; omega
   exact .inr h0
  have hev := Ev.laid hs.g (o := .cells mc e) (k * Enc.n α) (.inl rfl) hx0
  have hrs : Rs E w (List.replicate k (cells x)).flatten mc.toList := by
   refine ⟨by rw [flat_rep_len, Enc.len, Array.length_toList, hmsz], fun j d u hd hu => ?_⟩
   have hlt := (List.getElem?_eq_some_iff.1 hu).1
   rw [Array.length_toList, hmsz] at hlt
   rw [flat_rep _ _ _ (by rw [Enc.len]; exact hlt), Enc.len] at hd
   exact hrc.2 _ d u hd (hmg j u hu)
  refine ⟨.slice (some ⟨w.heap.size, 0, none⟩) k k, w.alloc (.cells mc e), _, st.G, st.nx, lst (List.replicate k x), ?_, hev, ?_, SimG.laid hs.g (k * Enc.n α) (.inl rfl) hx0, h⟩
  ·simp only [execOp, ho, Sem.run_bind, e1, e2]
   rw [hrun]; rfl
  have hfin := R.mk_list (E := E.lay w.heap.size (k * Enc.n α)) (w := w.alloc (.cells mc e)) (rows := List.replicate k (cells x)) (a := some ⟨w.heap.size, 0, none⟩) (cap := k) (sz := Enc.n α) (us := mc.toList) (tok := .none) (by simp) (by unfold maxLen; omega) hpos (fun r hr => by rw [(List.mem_replicate.1 hr).2]; exact Enc.len x) (fun r hr d hd => by rw [(List.mem_replicate.1 hr).2] at hd; exact Enc.one x d hd) (hrs.ev hev) (.inr ⟨w.heap.size, 0, rfl, by simp only [Env.lay, if_true, Array.length_toList, hmsz]; omega, fun j u hu => by
   rw [Nat.zero_add]
   refine cell_of_heap (heap_new w _) ?_
   simpa using hu⟩) (by simp) (by simp) (by simp)
  rw [List.length_replicate] at hfin
  have e3 : lst (List.replicate k x) = .list (List.replicate k (cells x)) .none := by unfold lst; rw [List.map_replicate]
  rw [e3]
  exact hfin
end
theorem list_conv22 {E E' : Env} {w : World} {a b c d a' b' c' d' : C} (hE : Ev E w E' w) (ho : a'.one = true ∧ b'.one = true ∧ c'.one = true ∧ d'.one = true) (ha : ∀ v, R E w a v → R E' w a' v) (hb : ∀ v, R E w b v → R E' w b' v) (hc : ∀ v, R E w c v → R E' w c' v) (hd : ∀ v, R E w d v → R E' w d' v) {v : Value} (h : R E w (.list [[a, b], [c, d]] .none) v) : R E' w (.list [[a', b'], [c', d']] .none) v := by
 obtain ⟨p, cap, sz, us, rfl, h1, h2, h3, h4, h5, h6, h7, z1, z2, h8⟩ := h.list_inv
 have hsz : sz = 2 := (h4 [a, b] (by simp)).symm
 subst hsz
 refine R.mk_list (rows := [[a', b'], [c', d']]) (sz := 2) (us := us) h1 h2 h3 (by simp) ?_ ?_ ?_ (by simp) (by simp) (by simp)
 ·intro r hr x hx
  simp only [List.mem_cons, List.not_mem_nil, or_false] at hr
  rcases hr with rfl | rfl <;> (simp only [List.mem_cons, List.not_mem_nil, or_false] at hx; rcases hx with rfl | rfl)
  ·exact ho.1
  ·exact ho.2.1
  ·exact ho.2.2.1
  exact ho.2.2.2
 ·refine ⟨by have := h6.1; simpa using this, fun j x u hx hu => ?_⟩
  match j, hx with
  | 0, hx => cases hx; exact ha u (h6.2 0 _ u rfl hu)
  | 1, hx => cases hx; exact hb u (h6.2 1 _ u rfl hu)
  | 2, hx => cases hx; exact hc u (h6.2 2 _ u rfl hu)
  | 3, hx => cases hx; exact hd u (h6.2 3 _ u rfl hu)
  | j + 4, hx => simp at hx
 rcases h7 with h7 | ⟨bb, off, e, h9, h10⟩
 ·exact absurd h7 (by simp)
 exact .inr ⟨bb, off, e, Nat.le_trans h9 (hE.L bb), h10⟩
/-- what holds an own slice holds what is laid for good -/
theorem aw_commit_own_conv {ρ : Option Nat} {P : Program} {Q : Exit → St → Prop} {st : St} {c : Code} {α : Type} [Enc α] (m off : Nat) {n ver wv wm len sz : Nat} {tt : TypeId} {cs ds : List C} {d : C} (d' : C) (xs : List α) (hM : st.G m = some (.box wm ds)) (h0 : ds[off]? = some d) (h1 : d'.one = true) (hcv : ∀ (E E' : Env) (w : World) (v : Value), Ev E w E' w → (∀ v, R E w (.own n ver len) v → R E' w (lst xs) v) → R E w d v → R E' w d' v) (hG : st.G n = some (.arr ver wv tt sz len cs)) (hnm : m ≠ n) (hsz : sz = Enc.n α) (hcs : cs = flatC xs) (hlen : len = xs.length) (h : AW ρ P c Q { st with G := setG (delG st.G n) m (.box wm (ds.set off d')) }) : AW ρ P c Q st := by
 intro E w a hs
 obtain ⟨E', hE, hg', hl⟩ := own_commit_core hs.g xs hG hsz hcs hlen
 obtain ⟨b, us, tt2, hT, hh, hone, hr, hL⟩ := hg'.obj m (.box wm ds) (by rw [delG_other hnm]; exact hM)
 obtain ⟨b2, us2, tt3, hT2, hh2, _, hr2, _⟩ := hs.g.obj m _ hM
 have hs2 := hs.evd hE hg'
 have hTT : E'.T m = E.T m := by
  obtain ⟨ver1, wv1, val1, q1, q2, q3⟩ := hE.T m (hs.g.lt m _ hT2) _ _ _ hT
  rw [hT2] at q1
  simp only [Option.some.injEq, Prod.mk.injEq] at q1
  obtain ⟨rfl, rfl, rfl⟩ := q1
  rw [hT, hT2, (q3 rfl).1]
 have e1 : us = us2 := by
  rw [hTT, hT2] at hT
  simp only [Option.some.injEq, Prod.mk.injEq, Value.pointer.injEq, Addr.mk.injEq, true_and, and_true] at hT
  subst hT
  rw [hh2] at hh
  simp only [Option.some.injEq, Obj.cells.injEq] at hh
  exact hh.1.symm
 subst e1
 refine cwp_mono (fun _ _ _ hq => lift_trans hE hq) (h E' w a ⟨hs.d.ev hE, hs.sz, hs2.t, ⟨hg'.nx, fun k o ho => ?_, hg'.lt, hg'.tb, hg'.ap, hg'.fresh, hg'.base⟩⟩)
 simp only [setG] at ho
 split at ho
 ·rename_i ek
  subst ek
  simp only [Option.some.injEq] at ho
  subst ho
  refine ⟨b, us, tt2, hT, hh, fun d hd => ?_, ⟨by rw [hr.1]; simp, fun j d v hd hv => ?_⟩, hL⟩
  ·rcases List.mem_or_eq_of_mem_set hd with hd | rfl
   ·exact hone d hd
   exact h1
  rw [List.getElem?_set] at hd
  split at hd
  ·rename_i ej
   subst ej
   split at hd
   ·simp only [Option.some.injEq] at hd
    subst hd
    exact hcv E E' w v hE hl (hr2.2 off _ v h0 hv)
   cases hd
  exact hr.2 j d v hd hv
 exact hg'.obj k o ho
/-! ### The examples -/
def sSEA : ByteArray := ⟨#[83, 101, 97]⟩
def sTen : ByteArray := ⟨#[49, 48]⟩
def lns0 : List (List ByteArray) := [[sThe, sSea, sIs, sOld], [sOld, sThe, sSea]]
def lns1 : List (List ByteArray) := [[sThe, sSea, sIs, sOld], [sThe, sOld, sSea]]
def turnT : TextD := [⟨7, lns1⟩, ⟨3, [[sSea, sAnd, sSea]]⟩]
def turnC : CopyD := ⟨0, [⟨⟨0, 1, 0⟩, 3, sThe⟩, ⟨⟨0, 1, 1⟩, 3, sOld⟩]⟩
def oddT : TextD := [⟨7, lns0⟩, ⟨7, [[sSea, sAnd, sSea]]⟩]
def fewT : TextD := [⟨7, lns0⟩]
def wrongC : CopyD := ⟨4, [⟨⟨0, 0, 3⟩, 3, sOld⟩, ⟨⟨0, 1, 1⟩, 1, ⟨#[]⟩⟩, ⟨⟨1, 0, 3⟩, 2, sSalt⟩]⟩
theorem ex_num : numE seaT ⟨1, 0, 0⟩ = 7 ∧ placedEr seaT ⟨1, 0, 0⟩ = 0 := ⟨by decide +kernel, by decide +kernel⟩
theorem ex_st1 : standsV seaT saltC ⟨0, 0, 3⟩ = sCold ∧ standsEr seaT saltC ⟨0, 0, 3⟩ = 0 := ⟨by decide +kernel, by decide +kernel⟩
theorem ex_st2 : standsV seaT saltC ⟨0, 1, 1⟩ = ⟨#[]⟩ ∧ standsEr seaT saltC ⟨0, 1, 1⟩ = 0 := ⟨by decide +kernel, by decide +kernel⟩
theorem ex_st3 : standsV seaT saltC ⟨0, 1, 2⟩ = sSea ∧ standsEr seaT saltC ⟨0, 1, 2⟩ = 0 := ⟨by decide +kernel, by decide +kernel⟩
theorem ex_st4 : standsEr seaT saltC ⟨1, 0, 3⟩ = 12 := by decide +kernel
theorem ex_turn : findC seaT turnT 0 = turnC ∧ findE seaT turnT 0 = 0 := ⟨by decide +kernel, by decide +kernel⟩
theorem ex_odd : textEr oddT = 10 := by decide +kernel
theorem ex_at : placedEr seaT ⟨0, 1, 3⟩ = 12 := by decide +kernel
theorem ex_ten : placeOfEr seaT 10 = 2 := by decide +kernel
theorem ex_SEA : placesEr seaT sSEA = 2 := by decide +kernel
theorem ex_few : findE seaT fewT 0 = 8 ∧ twoE seaT fewT = 8 := ⟨by decide +kernel, by decide +kernel⟩
theorem ex_great : findE seaT seaT 10000 = 2 := by decide +kernel
theorem ex_many : doubtEr seaT (List.replicate 6 (⟨0, []⟩ : CopyD)) = 4 := by decide +kernel
theorem ex_wrong : copyEr seaT wrongC = 11 := by decide +kernel
end Go.AB
namespace Go.Proofs.YtejhjijbgceklaaGreatDoor
set_option maxRecDepth 10000
open Go.RowKit Go.AB
open Go.AB.Enc (cells)
open Go.PB (Chap TextD PlaceD ReadingD CopyD WayD)
theorem exNum : Pure Tryz.prog 26 [textC seaT, val (⟨1, 0, 0⟩ : PlaceD)] (.tup [.v (.int .i64 7), .v (.int .i64 0)]) := by
 have := leafNumber_pure seaT ⟨1, 0, 0⟩
 rwa [ex_num.1, ex_num.2] at this
theorem exStands (n : Nat) {p : PlaceD} {s : ByteArray} {e : Int} (h1 : standsV seaT saltC p = s) (h2 : standsEr seaT saltC p = e) : PureN n kndF Tryz.prog 17 [textC seaT, val saltC, val p] (.tup [.v (.string s), .v (.int .i64 e)]) := by
 have := leafStands_pureN n seaT saltC p
 rwa [h1, h2] at this
theorem exTurn : Pure Tryz.prog 13 [textC seaT, textC turnT, .v (.int .i64 0)] (.tup [val turnC, .v (.int .i64 0)]) := by
 have := leafFind_pureT seaT turnT 0
 rwa [ex_turn.1, ex_turn.2] at this
theorem exOdd : Pure Tryz.prog 20 [textC oddT] (.tup [.v (.int .i64 (wordsN oddT)), .v (.int .i64 10)]) := by
 have := leafWords_pure oddT
 rwa [ex_odd] at this
theorem exAt : Pure Tryz.prog 22 [textC seaT, val (⟨0, 1, 3⟩ : PlaceD)] (.tup [.v (.string (atWord seaT ⟨0, 1, 3⟩)), .v (.int .i64 12)]) := by
 have := leafAt_pure seaT ⟨0, 1, 3⟩
 rwa [ex_at] at this
theorem exTen : Pure Tryz.prog 21 [textC seaT, .v (.int .i64 10)] (.tup [val (placeOfV seaT 10), .v (.int .i64 2)]) := by
 have := leafPlaceOf_pure seaT 10
 rwa [ex_ten] at this
theorem exSEA : Pure Tryz.prog 30 [textC seaT, .v (.string sSEA)] (.tup [lst (placesV seaT sSEA), .v (.int .i64 2)]) := by
 have := leafPlaces_pure seaT sSEA
 rwa [ex_SEA] at this
theorem exFew : Pure Tryz.prog 13 [textC seaT, textC fewT, .v (.int .i64 0)] (.tup [val (findC seaT fewT 0), .v (.int .i64 8)]) := by
 have := leafFind_pureT seaT fewT 0
 rwa [ex_few.1] at this
theorem exFar : Pure Tryz.prog 14 [textC seaT, textC fewT] (.tup [.v (.int .i64 (apartN seaT fewT)), .v (.int .i64 8)]) := by
 have := leafApart_pureT seaT fewT
 rwa [ex_few.2] at this
theorem exGreat : Pure Tryz.prog 13 [textC seaT, textC seaT, .v (.int .i64 10000)] (.tup [val (findC seaT seaT 10000), .v (.int .i64 2)]) := by
 have := leafFind_pureT seaT seaT 10000
 rwa [ex_great] at this
theorem exMany (n : Nat) : PureN n kndF Tryz.prog 19 [textC seaT, lst (List.replicate 6 (⟨0, []⟩ : CopyD))] (.tup [lst (doubtV seaT (List.replicate 6 (⟨0, []⟩ : CopyD))), .v (.int .i64 4)]) := by
 have := leafDoubt_pureN n seaT (List.replicate 6 (⟨0, []⟩ : CopyD))
 rwa [ex_many] at this
theorem exWrong (n : Nat) : PureN n kndF Tryz.prog 11 [textC seaT, val wrongC] (.tup [textC (readTx seaT wrongC), .v (.int .i64 11)]) := by
 have := leafRead_pureN n seaT wrongC
 rwa [ex_wrong] at this
theorem exCopy (n : Nat) : PureN n kndF Tryz.prog 31 [textC seaT, val wrongC] (.v (.int .i64 11)) := by
 have := leafCheckCopy_pureN n seaT wrongC
 rwa [ex_wrong] at this
theorem exCheck : Pure Tryz.prog 32 [textC oddT] (.v (.int .i64 10)) := by
 have := leafCheck_pure oddT
 rwa [ex_odd] at this
/-! ### Numerals -/
instance : Fun Tryz.prog 97 := ⟨by kernel_rfl⟩
instance : Fun Tryz.prog 92 := ⟨by kernel_rfl⟩
instance : Fun Tryz.prog 80 := ⟨by kernel_rfl⟩
instance : Fun Tryz.prog 56 := ⟨by kernel_rfl⟩
theorem small_calls (W : World) : Calls Tryz.prog 97 #[.int .i64 10] W fun e w' => e = .returned (.string sTen) ∧ w' = W := by
 go_enter Tryz.func97, Tryz.ntmps97
 go_wp2
 go_ret
 exact ⟨by kernel_rfl, rfl⟩
theorem small_pure : Pure Tryz.prog 97 [.v (.int .i64 10)] (.v (.string sTen)) := fun G nx E W vs hr hg => by
 match vs, hr with
 | [v], hr =>
  have e := (hr.2 0 _ v rfl rfl).v_inv
  subst e
  exact (small_calls W).mono fun e w' ⟨h1, h2⟩ => by
   subst h2
   exact ⟨_, _, E, G, nx, h1, Ev.refl E _, .v rfl, hg, rfl, rfl, rfl⟩
 | [], hr => exact absurd hr.1 (by simp)
 | _ :: _ :: _, hr => exact absurd hr.1 (by simp)
theorem formatInt_pure : Pure Tryz.prog 92 [.v (.int .i64 10), .v (.int .i64 10)] (.v (.string sTen)) := by
 refine pure_of_body Tryz.func92 rfl (fun m => .v) fun G nx => ?_
 simp only [Tryz.ntmps92, List.length_cons, List.length_nil, Nat.reduceAdd, Nat.reduceSub]
 refine aw_lt fun hlt => ?_
 dsimp only at hlt
 refine yS fun _ K1 => ?_
 refine yR ?_
 refine yA rfl rfl ?_
 refine yN ?_
 dsimp only [St.put]
 refine K1 _ ?_
 refine yS fun _ K2 => ?_
 refine yS fun _ K3 => ?_
 refine yR ?_
 refine yM rfl rfl ?_
 refine aops_n rfl (n_bool (n_eql rfl rfl rfl) (decide_eq_true (by omega))) ?_
 refine yN ?_
 dsimp only [St.put]
 refine K3 _ ?_
 refine aw_cond rfl (fun _ => ?_) (fun h => by cases h)
 refine yS fun _ K4 => ?_
 refine yS fun _ K5 => ?_
 refine yR ?_
 refine yM rfl rfl ?_
 refine aops_n rfl (n_bool (n_leq rfl rfl rfl) (decide_eq_true (by omega))) ?_
 refine yM rfl rfl ?_
 refine yM rfl rfl ?_
 refine aops_n rfl (n_bool (n_lss rfl rfl rfl) (decide_eq_true (by omega))) ?_
 refine aops_n rfl (n_pt rfl rfl (by constructor)) ?_
 refine yN ?_
 dsimp only [St.put]
 refine K5 _ ?_
 refine aw_cond rfl (fun _ => ?_) (fun h => by cases h)
 refine yS fun _ K6 => ?_
 refine yR ?_
 refine yM rfl rfl ?_
 try dsimp only [St.put]
 refine aops_e rfl (e_call_pure rfl rfl rfl (small_pure) ?_)
 refine yA rfl rfl ?_
 refine yN ?_
 dsimp only [St.put]
 refine K6 _ ?_
 refine aw_ret ?_
 refine ends_1 rfl (by constructor) zN zS ?_
 rfl
theorem itoa1_pure : Pure Tryz.prog 80 [.v (.int .i64 10)] (.v (.string sTen)) := by
 refine pure_of_body Tryz.func80 rfl (fun m => .v) fun G nx => ?_
 simp only [Tryz.ntmps80, List.length_cons, List.length_nil, Nat.reduceAdd, Nat.reduceSub]
 refine aw_lt fun hlt => ?_
 dsimp only at hlt
 refine yS fun _ K1 => ?_
 refine yR ?_
 refine yA rfl rfl ?_
 refine yN ?_
 dsimp only [St.put]
 refine K1 _ ?_
 refine yS fun _ K2 => ?_
 refine yR ?_
 refine yM rfl rfl ?_
 try dsimp only [St.put]
 refine aops_e rfl (e_call_pure rfl rfl rfl (formatInt_pure) ?_)
 refine yA rfl rfl ?_
 refine yN ?_
 dsimp only [St.put]
 refine K2 _ ?_
 refine aw_ret ?_
 refine ends_1 rfl (by constructor) zN zS ?_
 rfl
theorem itoa_pure : Pure Tryz.prog 56 [.v (.int .i64 10)] (.v (.string sTen)) := by
 refine pure_of_body Tryz.func56 rfl (fun m => .v) fun G nx => ?_
 simp only [Tryz.ntmps56, List.length_cons, List.length_nil, Nat.reduceAdd, Nat.reduceSub]
 refine aw_lt fun hlt => ?_
 dsimp only at hlt
 refine yS fun _ K1 => ?_
 refine yR ?_
 refine yA rfl rfl ?_
 refine yN ?_
 dsimp only [St.put]
 refine K1 _ ?_
 refine yS fun _ K2 => ?_
 refine yR ?_
 refine yM rfl rfl ?_
 try dsimp only [St.put]
 refine aops_e rfl (e_call_pure rfl rfl rfl (itoa1_pure) ?_)
 refine yA rfl rfl ?_
 refine yN ?_
 dsimp only [St.put]
 refine K2 _ ?_
 refine aw_ret ?_
 refine ends_1 rfl (by constructor) zN zS ?_
 rfl
theorem errTen_pure : Pure Tryz.prog 25 [.v (.int .i64 10)] (.v (.string ⟨#[101, 114, 114, 111, 114, 32, 49, 48]⟩)) := by
 refine pure_of_body Tryz.func25 rfl (fun m => .v) fun G nx => ?_
 simp only [Tryz.ntmps25, List.length_cons, List.length_nil, Nat.reduceAdd, Nat.reduceSub]
 refine aw_lt fun hlt => ?_
 dsimp only at hlt
 refine yS fun _ K1 => ?_
 refine yR ?_
 refine yA rfl rfl ?_
 refine yN ?_
 dsimp only [St.put]
 refine K1 _ ?_
 refine yS fun _ K2 => ?_
 refine yR ?_
 refine yM rfl rfl ?_
 try dsimp only [St.put]
 refine aops_e rfl (e_call_pure rfl rfl rfl (itoa_pure) ?_)
 refine aops_n rfl (n_stradd (r := ⟨#[101, 114, 114, 111, 114, 32, 49, 48]⟩) rfl rfl rfl (by decide +kernel) (by decide +kernel)) ?_
 refine yA rfl rfl ?_
 refine yN ?_
 dsimp only [St.put]
 refine K2 _ ?_
 refine aw_ret ?_
 refine ends_1 rfl (by constructor) zN zS ?_
 rfl
/-! ### Examples that are written into -/
theorem lawSea_lines (G : Nat → Option GObj) (nx : Nat) : PC Tryz.prog 27 [] G nx fun r' G' nx' => r' = .agg [.list [[.v (.int .i64 7), .own (nx + 1) 0 2], [.v (.int .i64 3), lst [[sSea, sAnd, sSea]]]] .none] ∧ G' = setG G (nx + 1) (.arr 0 0 43 1 2 (flatC lns0)) ∧ nx' = nx + 1 + 1 := by
 refine pc_named_of_body (setG G (nx + 1) (.arr 0 0 43 1 2 (flatC lns0))) (nx + 1 + 1) Tryz.func27 rfl (.agg (low_cons (.list (by intro r hr c hc; simp only [List.mem_cons, List.not_mem_nil, or_false] at hr; rcases hr with rfl | rfl <;> (simp only [List.mem_cons, List.not_mem_nil, or_false] at hc; rcases hc with rfl | rfl <;> first | exact .v | exact .own (Nat.lt_succ_self _) | exact lst_low _ _)) (by simp)) low_nil)) zN (fun hlt => zH) ?_
 simp only [Tryz.ntmps27, List.length_cons, List.length_nil, Nat.reduceAdd, Nat.reduceSub]
 refine aw_lt fun hlt => ?_
 dsimp only at hlt
 refine yS fun _ K1 => ?_
 refine yR ?_
 try dsimp only [St.put]
 refine aops_e rfl (e_allocC rfl ?_)
 refine yN ?_
 dsimp only [St.put]
 refine K1 _ ?_
 refine yS fun _ K2 => ?_
 refine yR ?_
 try dsimp only [St.put]
 refine aops_e rfl (e_buildSlice rfl rfl rfl (by decide) (by decide) zR (by decide) ?_)
 try dsimp only [St.put]
 refine aops_e rfl (e_buildSlice rfl rfl rfl (by decide) (by decide) zR (by decide) ?_)
 try dsimp only [St.put]
 refine aops_e rfl (e_buildSlice_new lns0 rfl rfl rfl rfl (by decide) (by decide) (by decide) ?_)
 refine aops_n rfl (n_build rfl rfl) ?_
 try dsimp only [St.put]
 refine aops_e rfl (e_buildSlice rfl rfl rfl (by decide) (by decide) zR (by decide) ?_)
 try dsimp only [St.put]
 refine aops_e rfl (e_buildSlice rfl rfl rfl (by decide) (by decide) zR (by decide) ?_)
 refine aops_n rfl (n_build rfl rfl) ?_
 try dsimp only [St.put]
 refine aops_e rfl (e_buildSlice rfl rfl rfl (by decide) (by decide) zR (by decide) ?_)
 refine aops_n rfl (n_build rfl rfl) ?_
 try dsimp only [St.put]
 refine aops_e rfl (e_store_all rfl rfl rfl zG rfl rfl (by rfl) ?_)
 refine yN ?_
 dsimp only [St.put]
 refine K2 _ ?_
 refine aw_ret ?_
 refine ends_v1 rfl (rv_box rfl zG (by rfl) (by first | exact List.cons_ne_nil _ _ | (simp; done) | (simp [putAt]; done)) rfl) zN zX ?_
 exact zW
theorem lawSea_own (G : Nat → Option GObj) (nx : Nat) : PC Tryz.prog 27 [] G nx fun r' G' nx' => r' = .agg [.own (nx + 1) 0 2] ∧ G' = setG G (nx + 1) (.arr 0 0 42 2 2 (flatC seaT)) ∧ nx' = nx + 1 + 1 := by
 refine pc_named_of_body (setG G (nx + 1) (.arr 0 0 42 2 2 (flatC seaT))) (nx + 1 + 1) Tryz.func27 rfl (.agg (low_cons (.own (Nat.lt_succ_self _)) low_nil)) zN (fun hlt => zH) ?_
 simp only [Tryz.ntmps27, List.length_cons, List.length_nil, Nat.reduceAdd, Nat.reduceSub]
 refine aw_lt fun hlt => ?_
 dsimp only at hlt
 refine yS fun _ K1 => ?_
 refine yR ?_
 try dsimp only [St.put]
 refine aops_e rfl (e_allocC rfl ?_)
 refine yN ?_
 dsimp only [St.put]
 refine K1 _ ?_
 refine yS fun _ K2 => ?_
 refine yR ?_
 try dsimp only [St.put]
 refine aops_e rfl (e_buildSlice rfl rfl rfl (by decide) (by decide) zR (by decide) ?_)
 try dsimp only [St.put]
 refine aops_e rfl (e_buildSlice rfl rfl rfl (by decide) (by decide) zR (by decide) ?_)
 try dsimp only [St.put]
 refine aops_e rfl (e_buildSlice rfl rfl rfl (by decide) (by decide) zR (by decide) ?_)
 refine aops_n rfl (n_build rfl rfl) ?_
 try dsimp only [St.put]
 refine aops_e rfl (e_buildSlice rfl rfl rfl (by decide) (by decide) zR (by decide) ?_)
 try dsimp only [St.put]
 refine aops_e rfl (e_buildSlice rfl rfl rfl (by decide) (by decide) zR (by decide) ?_)
 refine aops_n rfl (n_build rfl rfl) ?_
 try dsimp only [St.put]
 refine aops_e rfl (e_buildSlice_new seaT rfl rfl rfl rfl (by decide) (by decide) (by decide) ?_)
 refine aops_n rfl (n_build rfl rfl) ?_
 try dsimp only [St.put]
 refine aops_e rfl (e_store_all rfl rfl rfl zG rfl rfl (by rfl) ?_)
 refine yN ?_
 dsimp only [St.put]
 refine K2 _ ?_
 refine aw_ret ?_
 refine ends_v1 rfl (rv_box rfl zG (by rfl) (by first | exact List.cons_ne_nil _ _ | (simp; done) | (simp [putAt]; done)) rfl) zN zX ?_
 exact zW
theorem lawSalt_own (G : Nat → Option GObj) (nx : Nat) : PC Tryz.prog 28 [] G nx fun r' G' nx' => r' = .agg [.v (.int .i64 4), .own (nx + 1) 0 3] ∧ G' = setG G (nx + 1) (.arr 0 0 47 5 3 (flatC saltC.rs)) ∧ nx' = nx + 1 + 1 := by
 refine pc_named_of_body (setG G (nx + 1) (.arr 0 0 47 5 3 (flatC saltC.rs))) (nx + 1 + 1) Tryz.func28 rfl (.agg (low_cons .v (low_cons (.own (Nat.lt_succ_self _)) low_nil))) zN (fun hlt => zH) ?_
 simp only [Tryz.ntmps28, List.length_cons, List.length_nil, Nat.reduceAdd, Nat.reduceSub]
 refine aw_lt fun hlt => ?_
 dsimp only at hlt
 refine yS fun _ K1 => ?_
 refine yR ?_
 try dsimp only [St.put]
 refine aops_e rfl (e_allocC rfl ?_)
 refine yN ?_
 dsimp only [St.put]
 refine K1 _ ?_
 refine yS fun _ K2 => ?_
 refine yR ?_
 try dsimp only [St.put]
 refine aops_e rfl (e_call_pure rfl rfl rfl (lawAt_pure _ _ _) ?_)
 refine aops_n rfl (n_build rfl rfl) ?_
 try dsimp only [St.put]
 refine aops_e rfl (e_call_pure rfl rfl rfl (lawAt_pure _ _ _) ?_)
 refine aops_n rfl (n_build rfl rfl) ?_
 try dsimp only [St.put]
 refine aops_e rfl (e_call_pure rfl rfl rfl (lawAt_pure _ _ _) ?_)
 refine aops_n rfl (n_build rfl rfl) ?_
 try dsimp only [St.put]
 refine aops_e rfl (e_buildSlice_new saltC.rs rfl rfl rfl rfl (by decide) (by decide) (by decide) ?_)
 refine aops_n rfl (n_build rfl rfl) ?_
 try dsimp only [St.put]
 refine aops_e rfl (e_store_all rfl rfl rfl zG rfl rfl (by rfl) ?_)
 refine yN ?_
 dsimp only [St.put]
 refine K2 _ ?_
 refine aw_ret ?_
 refine ends_v1 rfl (rv_box rfl zG (by rfl) (by first | exact List.cons_ne_nil _ _ | (simp; done) | (simp [putAt]; done)) rfl) zN zX ?_
 exact zW
set_option maxHeartbeats 8000000 in
theorem examples_pureN : PureN 0 kndF Tryz.prog 7 [] (.v (.bool true)) := fun G nx hF hnx => by
 refine pc_named_of_body (G) (nx) Tryz.func7 rfl (.v) zN (fun hlt => zH) ?_
 simp only [Tryz.ntmps7, List.length_cons, List.length_nil, Nat.reduceAdd, Nat.reduceSub]
 refine aw_lt fun hlt => ?_
 dsimp only at hlt
 refine yS fun _ K1 => ?_
 refine yR ?_
 refine yA rfl rfl ?_
 refine yN ?_
 dsimp only [St.put]
 refine K1 _ ?_
 refine yS fun _ K2 => ?_
 refine yS fun _ K3 => ?_
 refine yR ?_
 refine yM rfl rfl ?_
 try dsimp only [St.put]
 refine aops_e rfl (e_call_pure rfl rfl rfl (errTen_pure) ?_)
 refine aops_n rfl (n_bool (c := false) (n_strne rfl rfl rfl) (by decide +kernel)) ?_
 refine aops_n rfl (n_pf rfl rfl (by constructor)) ?_
 refine yM rfl rfl ?_
 try dsimp only [St.put]
 refine aops_e rfl (e_call_n rfl rfl rfl (alive_pureN 0) zG (by dsimp only [St.put]; omega) ?_)
 refine aops_n rfl (n_not rfl rfl) ?_
 refine aops_n rfl (n_pf rfl rfl (by constructor)) ?_
 refine yN ?_
 dsimp only [St.put]
 refine K3 _ ?_
 refine aw_cond rfl (fun h => by cases h) (fun _ => ?_)
 refine aw_skip ?_
 refine K2 _ ?_
 refine yS fun _ K4 => ?_
 refine yR ?_
 try dsimp only [St.put]
 refine aops_e rfl (e_call_pure rfl rfl rfl (lawSea_pure) ?_)
 try dsimp only [St.put]
 refine aops_e rfl (e_call_pure rfl rfl rfl (lawAt_pure _ _ _) ?_)
 try dsimp only [St.put]
 refine aops_e rfl (e_call_pure rfl rfl rfl (exNum) ?_)
 refine yM rfl rfl ?_
 refine yX rfl rfl rfl rfl ?_
 refine yX rfl rfl rfl rfl ?_
 refine yA rfl rfl ?_
 refine yA rfl rfl ?_
 refine yN ?_
 dsimp only [St.put]
 refine K4 _ ?_
 refine yS fun _ K5 => ?_
 refine yR ?_
 try dsimp only [St.put]
 refine aops_e rfl (e_call_pure rfl rfl rfl (lawSea_pure) ?_)
 try dsimp only [St.put]
 refine aops_e rfl (e_call_pure rfl rfl rfl (lawSalt_pure) ?_)
 try dsimp only [St.put]
 refine aops_e rfl (e_call_pure rfl rfl rfl (lawAt_pure _ _ _) ?_)
 try dsimp only [St.put]
 refine aops_e rfl (e_call_n rfl rfl rfl (exStands 0 ex_st1.1 ex_st1.2) zG (by dsimp only [St.put]; omega) ?_)
 refine yM rfl rfl ?_
 refine yX rfl rfl rfl rfl ?_
 refine yX rfl rfl rfl rfl ?_
 refine yA rfl rfl ?_
 refine yA rfl rfl ?_
 refine yN ?_
 dsimp only [St.put]
 refine K5 _ ?_
 refine yS fun _ K6 => ?_
 refine yR ?_
 try dsimp only [St.put]
 refine aops_e rfl (e_call_pure rfl rfl rfl (lawSea_pure) ?_)
 try dsimp only [St.put]
 refine aops_e rfl (e_call_pure rfl rfl rfl (lawSalt_pure) ?_)
 try dsimp only [St.put]
 refine aops_e rfl (e_call_pure rfl rfl rfl (lawAt_pure _ _ _) ?_)
 try dsimp only [St.put]
 refine aops_e rfl (e_call_n rfl rfl rfl (exStands 0 ex_st2.1 ex_st2.2) zG (by dsimp only [St.put]; omega) ?_)
 refine yM rfl rfl ?_
 refine yX rfl rfl rfl rfl ?_
 refine yX rfl rfl rfl rfl ?_
 refine yA rfl rfl ?_
 refine yA rfl rfl ?_
 refine yN ?_
 dsimp only [St.put]
 refine K6 _ ?_
 refine aw_wipe 26 ?_
 simp only [firsts, getA, Nat.reduceAdd, List.getD_cons_zero, List.getD_cons_succ, List.getD_nil, natBeq, Nat.reduceBEq, cond_true, cond_false]
 refine aw_cutD (X := Unit) (fun _ => True) (fun _ => [(1, .v (.int .i64 7)), (2, .v (.int .i64 0)), (3, .v (.string sCold)), (4, .v (.int .i64 0)), (5, .v (.string ⟨#[]⟩)), (6, .v (.int .i64 0)), (7, .v (.string sSea)), (8, .v (.int .i64 0))]) (fun _ G' => G') rfl ?_ (fun _ _ _ _ h => .inl h) ?_ ?_
 ·rintro _ hI
  exact zL
 ·refine yR ?_
  try dsimp only [St.put]
  refine aops_e rfl (e_call_pure rfl rfl rfl (lawSea_pure) ?_)
  try dsimp only [St.put]
  refine aops_e rfl (e_call_pure rfl rfl rfl (lawSalt_pure) ?_)
  try dsimp only [St.put]
  refine aops_e rfl (e_call_pure rfl rfl rfl (lawAt_pure _ _ _) ?_)
  try dsimp only [St.put]
  refine aops_e rfl (e_call_n rfl rfl rfl (exStands 0 ex_st3.1 ex_st3.2) zG (by dsimp only [St.put]; omega) ?_)
  refine yM rfl rfl ?_
  refine yX rfl rfl rfl rfl ?_
  refine yX rfl rfl rfl rfl ?_
  refine yA rfl rfl ?_
  refine yA rfl rfl ?_
  refine yN ?_
  dsimp only [St.put]
  exact ⟨(), trivial, ⟨⟨rfl, rfl⟩, zF, zB, zN, zX⟩⟩
 rintro _ hI
 dsimp only at hI ⊢
 refine yS fun _ K8 => ?_
 refine yR ?_
 try dsimp only [St.put]
 refine aops_e rfl (e_call_named rfl rfl rfl (lawSea_lines _ _) ?_)
 try dsimp only [St.put]
 refine aops_e rfl (e_allocC rfl ?_)
 try dsimp only [St.put]
 refine aops_e rfl (e_store_all rfl rfl rfl zG rfl rfl (by rfl) ?_)
 refine yN ?_
 dsimp only [St.put]
 refine K8 _ ?_
 refine yS fun _ K9 => ?_
 refine yR ?_
 refine aops_n rfl (n_fieldAddr_box rfl rfl) ?_
 try dsimp only [St.put]
 refine aops_s rfl (s_load_box rfl rfl zG trivial (by first | rfl | assumption)) ?_
 try dsimp only [St.put]
 refine aops_n rfl (n_indexAddr (k := 0) rfl rfl rfl rfl rfl rfl) ?_
 refine yF rfl rfl rfl rfl ?_
 refine yL rfl rfl rfl ?_
 try dsimp only [St.put]
 refine aops_e rfl (e_buildSlice (rows := ([sThe, sOld, sSea] : List ByteArray).map cells) rfl rfl rfl (by decide) (by decide) (map_len _) (by decide) ?_)
 try dsimp only [St.put]
 refine aops_n rfl (n_indexAddr_own (k := 1) rfl rfl zG rfl (by first | exact rfl | omega) (by first | omega | (simp; omega))) ?_
 try dsimp only [St.put]
 refine aops_e rfl (e_store_own1 (k := 1) (j := 0) (xs := lns0) (z := [sOld, sThe, sSea]) (z' := [sThe, sOld, sSea]) rfl rfl rfl zG rfl rfl rfl rfl (by decide) rfl ?_)
 refine yN ?_
 dsimp only [St.put]
 refine K9 _ ?_
 refine aw_commit_own_conv (nx + 1 + 1) 0 (lst turnT) lns1 zG rfl rfl (fun E E' w v hE hl h => list_conv22 hE ⟨rfl, rfl, rfl, rfl⟩ (fun _ h => h.ev hE) hl (fun _ h => h.ev hE) (fun _ h => h.ev hE) h) zG (by omega) rfl rfl rfl ?_
 dsimp only [List.set_cons_zero, List.set_cons_succ]
 refine aw_commitD (i := 9) rfl zG (by exact List.cons_ne_nil _ _) ?_
 dsimp only
 refine aw_forget G zX ?_
 dsimp only
 refine aw_wipe 26 ?_
 simp only [firsts, getA, Nat.reduceAdd, List.getD_cons_zero, List.getD_cons_succ, List.getD_nil, natBeq, Nat.reduceBEq, cond_true, cond_false]
 refine aw_cutD (X := Unit) (fun _ => True) (fun _ => [(9, .elem [lst turnT]), (10, .elem (cells turnC)), (11, .v (.int .i64 0))]) (fun _ G' => G') rfl ?_ (fun _ _ _ _ h => .inl h) ?_ ?_
 ·rintro _ hI
  exact zL
 ·refine aw_drawT [(1, none)] (fun _ => false) (fun i => [].contains i) 8 [false, true, false, false, false, false, false, false, false] (by kernel_rfl) (by kernel_rfl) ?_
  try dsimp only [St.put]
  refine acan1_s rfl rfl rfl rfl (s_load_agg' rfl rfl rfl) ?_
  refine acan1_nil ?_
  refine aany_step [0, 6] (by kernel_rfl) (by simp) ?_
  refine aeach_cons ?_ ?_
  ·try dsimp only [St.put]
   refine aone_e rfl rfl rfl (e_call_pure rfl rfl rfl (lawSea_pure) ?_)
   refine aany_step [2, 6] (by kernel_rfl) (by simp) ?_
   refine aeach_cons ?_ ?_
   ·try dsimp only [St.put]
    refine aone_e rfl rfl rfl (e_call_pure rfl rfl rfl (exTurn) ?_)
    refine aany_quiet [(3, none), (4, none), (5, none)] (fun i => [3, 4, 5].contains i) 3 [true, true, true, true, true, true, false, false, false] (by kernel_rfl) ?_
    refine xM rfl rfl rfl rfl rfl ?_
    refine acan1_n rfl rfl rfl rfl (n_extract rfl rfl rfl) ?_
    refine acan1_n rfl rfl rfl rfl (n_extract rfl rfl rfl) ?_
    refine acan1_nil ?_
    refine aany_step [6] (by kernel_rfl) (by simp) ?_
    refine aeach_cons ?_ ?_
    ·try dsimp only [St.put]
     refine aone_e rfl rfl rfl (e_allocC rfl ?_)
     refine aany_step [7] (by kernel_rfl) (by simp) ?_
     refine aeach_cons ?_ ?_
     ·try dsimp only [St.put]
      refine aone_e rfl rfl rfl (e_store_all rfl rfl rfl zG rfl rfl (by rfl) ?_)
      refine aany_quiet [(8, none)] (fun i => [8].contains i) 0 [true, true, true, true, true, true, true, true, true] (by kernel_rfl) ?_
      refine acan1_n rfl rfl rfl rfl (n_as rfl (by constructor)) ?_
      refine acan1_nil ?_
      dsimp only [St.put]
      refine aany_of_tr (tr_commit (i := 10) rfl zG (by first | exact List.cons_ne_nil _ _ | (simp; done) | (simp [putAt]; done))) ?_
      dsimp only
      refine aany_nil (by kernel_rfl) ?_
      exact ⟨(), trivial, ⟨⟨rfl, rfl⟩, zF, zB, zN, zX⟩⟩
     exact aeach_nil
    exact aeach_nil
   refine aeach_cons ?_ ?_
   ·try dsimp only [St.put]
    refine aone_e rfl rfl rfl (e_allocC rfl ?_)
    refine aany_step [2] (by kernel_rfl) (by simp) ?_
    refine aeach_cons ?_ ?_
    ·try dsimp only [St.put]
     refine aone_e rfl rfl rfl (e_call_pure rfl rfl rfl (exTurn) ?_)
     refine aany_quiet [(3, none), (4, none), (5, none)] (fun i => [3, 4, 5].contains i) 2 [true, true, true, true, true, true, true, false, false] (by kernel_rfl) ?_
     refine xM rfl rfl rfl rfl rfl ?_
     refine acan1_n rfl rfl rfl rfl (n_extract rfl rfl rfl) ?_
     refine acan1_n rfl rfl rfl rfl (n_extract rfl rfl rfl) ?_
     refine acan1_nil ?_
     refine aany_step [7] (by kernel_rfl) (by simp) ?_
     refine aeach_cons ?_ ?_
     ·try dsimp only [St.put]
      refine aone_e rfl rfl rfl (e_store_all rfl rfl rfl zG rfl rfl (by rfl) ?_)
      refine aany_quiet [(8, none)] (fun i => [8].contains i) 0 [true, true, true, true, true, true, true, true, true] (by kernel_rfl) ?_
      refine acan1_n rfl rfl rfl rfl (n_as rfl (by constructor)) ?_
      refine acan1_nil ?_
      dsimp only [St.put]
      refine aany_of_tr (tr_commit (i := 10) rfl zG (by first | exact List.cons_ne_nil _ _ | (simp; done) | (simp [putAt]; done))) ?_
      dsimp only
      refine aany_nil (by kernel_rfl) ?_
      exact ⟨(), trivial, ⟨⟨rfl, rfl⟩, zF, zB, zN, zX⟩⟩
     exact aeach_nil
    exact aeach_nil
   exact aeach_nil
  refine aeach_cons ?_ ?_
  ·try dsimp only [St.put]
   refine aone_e rfl rfl rfl (e_allocC rfl ?_)
   refine aany_step [0] (by kernel_rfl) (by simp) ?_
   refine aeach_cons ?_ ?_
   ·try dsimp only [St.put]
    refine aone_e rfl rfl rfl (e_call_pure rfl rfl rfl (lawSea_pure) ?_)
    refine aany_step [2] (by kernel_rfl) (by simp) ?_
    refine aeach_cons ?_ ?_
    ·try dsimp only [St.put]
     refine aone_e rfl rfl rfl (e_call_pure rfl rfl rfl (exTurn) ?_)
     refine aany_quiet [(3, none), (4, none), (5, none)] (fun i => [3, 4, 5].contains i) 2 [true, true, true, true, true, true, true, false, false] (by kernel_rfl) ?_
     refine xM rfl rfl rfl rfl rfl ?_
     refine acan1_n rfl rfl rfl rfl (n_extract rfl rfl rfl) ?_
     refine acan1_n rfl rfl rfl rfl (n_extract rfl rfl rfl) ?_
     refine acan1_nil ?_
     refine aany_step [7] (by kernel_rfl) (by simp) ?_
     refine aeach_cons ?_ ?_
     ·try dsimp only [St.put]
      refine aone_e rfl rfl rfl (e_store_all rfl rfl rfl zG rfl rfl (by rfl) ?_)
      refine aany_quiet [(8, none)] (fun i => [8].contains i) 0 [true, true, true, true, true, true, true, true, true] (by kernel_rfl) ?_
      refine acan1_n rfl rfl rfl rfl (n_as rfl (by constructor)) ?_
      refine acan1_nil ?_
      dsimp only [St.put]
      refine aany_of_tr (tr_commit (i := 10) rfl zG (by first | exact List.cons_ne_nil _ _ | (simp; done) | (simp [putAt]; done))) ?_
      dsimp only
      refine aany_nil (by kernel_rfl) ?_
      exact ⟨(), trivial, ⟨⟨rfl, rfl⟩, zF, zB, zN, zX⟩⟩
     exact aeach_nil
    exact aeach_nil
   exact aeach_nil
  exact aeach_nil
 rintro _ hI
 dsimp only at hI ⊢
 refine yS fun _ K11 => ?_
 refine yR ?_
 try dsimp only [St.put]
 refine aops_e rfl (e_call_pure rfl rfl rfl (lawAt_pure _ _ _) ?_)
 refine aops_n rfl (n_build (cs := cells (⟨⟨0, 1, 0⟩, 3, sThe⟩ : ReadingD)) rfl rfl) ?_
 try dsimp only [St.put]
 refine aops_e rfl (e_call_pure rfl rfl rfl (lawAt_pure _ _ _) ?_)
 refine aops_n rfl (n_build (cs := cells (⟨⟨0, 1, 1⟩, 3, sOld⟩ : ReadingD)) rfl rfl) ?_
 try dsimp only [St.put]
 refine aops_e rfl (e_buildSlice (rows := turnC.rs.map cells) rfl rfl rfl (by decide) (by decide) (map_len _) (by decide) ?_)
 refine aops_n rfl (n_build (cs := cells turnC) rfl rfl) ?_
 try dsimp only [St.put]
 refine aops_e rfl (e_allocC rfl ?_)
 try dsimp only [St.put]
 refine aops_e rfl (e_store_all rfl rfl rfl zG rfl rfl (by rfl) ?_)
 refine yN ?_
 dsimp only [St.put]
 refine K11 _ ?_
 refine aw_commitD (i := 12) rfl zG (by first | exact List.cons_ne_nil _ _ | (simp; done) | (simp [putAt]; done)) ?_
 dsimp only
 refine yS fun _ K12 => ?_
 refine aw_wipe 26 ?_
 simp only [firsts, getA, Nat.reduceAdd, List.getD_cons_zero, List.getD_cons_succ, List.getD_nil, natBeq, Nat.reduceBEq, cond_true, cond_false]
 refine aw_cutD (X := Unit) (fun _ => True) (fun _ => [(12, .elem (cells turnC)), (120, .v (.bool false))]) (fun _ G' => G') rfl ?_ (fun _ _ _ _ h => .inl h) ?_ ?_
 ·rintro _ hI
  exact zL
 ·refine yR ?_
  refine yM rfl rfl ?_
  refine aops_n rfl (n_bool (c := false) (n_neq rfl rfl rfl) (not_dec_f rfl)) ?_
  refine yM rfl rfl ?_
  refine yM rfl rfl ?_
  refine aops_n rfl (n_bool (c := false) (n_neq rfl rfl rfl) (not_dec_f rfl)) ?_
  refine aops_n rfl (n_pf rfl rfl (by constructor)) ?_
  refine yM rfl rfl ?_
  refine yM rfl rfl ?_
  refine aops_n rfl (n_bool (c := false) (n_neq rfl rfl rfl) (not_dec_f rfl)) ?_
  refine aops_n rfl (n_pf rfl rfl (by constructor)) ?_
  refine yM rfl rfl ?_
  refine yM rfl rfl ?_
  refine aops_n rfl (n_bool (c := false) (n_strne rfl rfl rfl) (by decide +kernel)) ?_
  refine aops_n rfl (n_pf rfl rfl (by constructor)) ?_
  refine yM rfl rfl ?_
  refine yM rfl rfl ?_
  refine aops_n rfl (n_bool (c := false) (n_neq rfl rfl rfl) (not_dec_f rfl)) ?_
  refine aops_n rfl (n_pf rfl rfl (by constructor)) ?_
  refine yM rfl rfl ?_
  refine yM rfl rfl ?_
  refine aops_n rfl (n_bool (c := false) (n_strne rfl rfl rfl) (by decide +kernel)) ?_
  refine aops_n rfl (n_pf rfl rfl (by constructor)) ?_
  refine yM rfl rfl ?_
  refine yM rfl rfl ?_
  refine aops_n rfl (n_bool (c := false) (n_neq rfl rfl rfl) (not_dec_f rfl)) ?_
  refine aops_n rfl (n_pf rfl rfl (by constructor)) ?_
  refine yM rfl rfl ?_
  refine yM rfl rfl ?_
  refine aops_n rfl (n_bool (c := false) (n_strne rfl rfl rfl) (by decide +kernel)) ?_
  refine aops_n rfl (n_pf rfl rfl (by constructor)) ?_
  refine yM rfl rfl ?_
  refine yM rfl rfl ?_
  refine aops_n rfl (n_bool (c := false) (n_neq rfl rfl rfl) (not_dec_f rfl)) ?_
  refine aops_n rfl (n_pf rfl rfl (by constructor)) ?_
  refine yM rfl rfl ?_
  refine yE rfl rfl rfl ?_
  refine yE rfl rfl rfl ?_
  try dsimp only [St.put]
  refine aops_e rfl (e_call_pure rfl rfl rfl (lSameC turnC) ?_)
  refine aops_n rfl (n_not rfl rfl) ?_
  refine aops_n rfl (n_pf rfl rfl (by constructor)) ?_
  refine yN ?_
  dsimp only [St.put]
  exact ⟨(), trivial, ⟨⟨rfl, rfl⟩, zF, zB, zN, zX⟩⟩
 rintro _ hI
 dsimp only at hI ⊢
 refine aw_cond rfl (fun h => by cases h) (fun _ => ?_)
 refine aw_skip ?_
 refine K12 _ ?_
 refine yS fun _ K14 => ?_
 refine yR ?_
 try dsimp only [St.put]
 refine aops_e rfl (e_call_named rfl rfl rfl (lawSea_own _ _) ?_)
 try dsimp only [St.put]
 refine aops_e rfl (e_call_pure rfl rfl rfl (lawSea_pure) ?_)
 try dsimp only [St.put]
 refine aops_e rfl (e_call_named rfl rfl rfl (lawSalt_own _ _) ?_)
 try dsimp only [St.put]
 refine aops_e rfl (e_allocC rfl ?_)
 try dsimp only [St.put]
 refine aops_e rfl (e_allocC rfl ?_)
 try dsimp only [St.put]
 refine aops_e rfl (e_allocC rfl ?_)
 try dsimp only [St.put]
 refine aops_e rfl (e_store_all rfl rfl rfl zG rfl rfl (by rfl) ?_)
 try dsimp only [St.put]
 refine aops_e rfl (e_store_all rfl rfl rfl zG rfl rfl (by rfl) ?_)
 try dsimp only [St.put]
 refine aops_e rfl (e_store_all rfl rfl rfl zG rfl rfl (by rfl) ?_)
 refine yN ?_
 dsimp only [St.put]
 refine K14 _ ?_
 refine yS fun _ K15 => ?_
 refine yR ?_
 refine aops_n rfl (n_fieldAddr_box rfl rfl) ?_
 try dsimp only [St.put]
 refine aops_s rfl (s_load_box rfl rfl zG trivial (by first | rfl | assumption)) ?_
 try dsimp only [St.put]
 refine aops_n rfl (n_indexAddr_own (k := 1) rfl rfl zG rfl (by first | exact rfl | omega) (by first | omega | (simp; omega))) ?_
 refine aops_n rfl (n_fieldAddr_box rfl rfl) ?_
 try dsimp only [St.put]
 refine aops_e rfl (e_store_own1 (k := 1) (j := 0) (xs := seaT) (z := (⟨3, [[sSea, sAnd, sSea]]⟩ : Chap)) (z' := (⟨7, [[sSea, sAnd, sSea]]⟩ : Chap)) rfl rfl rfl zG rfl rfl rfl rfl (by decide) rfl ?_)
 refine yN ?_
 dsimp only [St.put]
 refine K15 _ ?_
 refine aw_commit_own_cell (nx + 1 + 1 + 1 + 1 + 1 + 1 + 1 + 1) 0 oddT zG rfl zG (by omega) rfl rfl rfl ?_
 dsimp only [List.set_cons_zero, List.set_cons_succ]
 refine aw_commitD (i := 13) rfl zG (by exact List.cons_ne_nil _ _) ?_
 dsimp only
 refine yS fun _ K16 => ?_
 refine yR ?_
 refine aops_n rfl (n_fieldAddr_box rfl rfl) ?_
 try dsimp only [St.put]
 refine aops_s rfl (s_load_box rfl rfl zG trivial (by first | rfl | assumption)) ?_
 refine aops_n rfl (n_slice_h (k := 1) rfl rfl rfl rfl (by decide)) ?_
 refine aops_n rfl (n_fieldAddr_box rfl rfl) ?_
 try dsimp only [St.put]
 refine aops_e rfl (e_store_all rfl rfl rfl zG rfl rfl (by rfl) ?_)
 refine yN ?_
 dsimp only [St.put]
 refine K16 _ ?_
 refine aw_commitD (i := 14) rfl zG (by first | exact List.cons_ne_nil _ _ | (simp; done) | (simp [putAt]; done)) ?_
 dsimp only
 refine yS fun _ K17 => ?_
 refine yR ?_
 refine aops_n rfl (n_fieldAddr_box rfl rfl) ?_
 try dsimp only [St.put]
 refine aops_s rfl (s_load_box rfl rfl zG trivial (by first | rfl | assumption)) ?_
 try dsimp only [St.put]
 refine aops_n rfl (n_indexAddr_own (k := 0) rfl rfl zG rfl (by first | exact rfl | omega) (by first | omega | (simp; omega))) ?_
 refine aops_n rfl (n_fieldAddr_box rfl rfl) ?_
 try dsimp only [St.put]
 refine aops_e rfl (e_store_own1 (k := 0) (j := 4) (xs := saltC.rs) (z := (⟨⟨0, 0, 3⟩, 3, sCold⟩ : ReadingD)) (z' := (⟨⟨0, 0, 3⟩, 3, sOld⟩ : ReadingD)) rfl rfl rfl zG rfl rfl rfl rfl (by decide) rfl ?_)
 refine yN ?_
 dsimp only [St.put]
 refine K17 _ ?_
 refine aw_commit_own_cell (nx + 1 + 1 + 1 + 1 + 1 + 1 + 1 + 1 + 1 + 1) 1 wrongC.rs zG rfl zG (by omega) rfl rfl rfl ?_
 dsimp only [List.set_cons_zero, List.set_cons_succ]
 refine aw_commitD (i := 15) rfl zG (by exact List.cons_ne_nil _ _) ?_
 dsimp only
 refine aw_forget G zX ?_
 dsimp only
 refine aw_wipe 26 ?_
 simp only [firsts, getA, Nat.reduceAdd, List.getD_cons_zero, List.getD_cons_succ, List.getD_nil, natBeq, Nat.reduceBEq, cond_true, cond_false]
 refine aw_cutD (X := Unit) (fun _ => True) (fun _ => [(2, .v (.int .i64 10)), (13, .elem [lst oddT]), (14, .elem [lst fewT]), (15, .elem (cells wrongC))]) (fun _ G' => G') rfl ?_ (fun _ _ _ _ h => .inl h) ?_ ?_
 ·rintro _ hI
  exact zL
 ·refine yR ?_
  try dsimp only [St.put]
  refine aops_s rfl (s_load_agg' rfl rfl rfl) ?_
  try dsimp only [St.put]
  refine aops_e rfl (e_call_pure rfl rfl rfl (exOdd) ?_)
  refine yM rfl rfl ?_
  refine yX rfl rfl rfl rfl ?_
  refine yX rfl rfl rfl rfl ?_
  refine yA rfl rfl ?_
  refine yN ?_
  dsimp only [St.put]
  exact ⟨(), trivial, ⟨⟨rfl, rfl⟩, zF, zB, zN, zX⟩⟩
 rintro _ hI
 dsimp only at hI ⊢
 refine yS fun _ K19 => ?_
 refine yR ?_
 try dsimp only [St.put]
 refine aops_e rfl (e_call_pure rfl rfl rfl (lawSea_pure) ?_)
 try dsimp only [St.put]
 refine aops_e rfl (e_call_pure rfl rfl rfl (lawAt_pure _ _ _) ?_)
 try dsimp only [St.put]
 refine aops_e rfl (e_call_pure rfl rfl rfl (exAt) ?_)
 refine yM rfl rfl ?_
 refine yX rfl rfl rfl rfl ?_
 refine yX rfl rfl rfl rfl ?_
 refine yA rfl rfl ?_
 refine yN ?_
 dsimp only [St.put]
 refine K19 _ ?_
 refine yS fun _ K20 => ?_
 refine yR ?_
 try dsimp only [St.put]
 refine aops_e rfl (e_call_pure rfl rfl rfl (lawSea_pure) ?_)
 try dsimp only [St.put]
 refine aops_e rfl (e_call_pure rfl rfl rfl (exTen) ?_)
 refine yM rfl rfl ?_
 refine yX rfl rfl rfl rfl ?_
 refine yX rfl rfl rfl rfl ?_
 refine yA rfl rfl ?_
 refine yN ?_
 dsimp only [St.put]
 refine K20 _ ?_
 refine aw_wipe 26 ?_
 simp only [firsts, getA, Nat.reduceAdd, List.getD_cons_zero, List.getD_cons_succ, List.getD_nil, natBeq, Nat.reduceBEq, cond_true, cond_false]
 refine aw_cutD (X := Unit) (fun _ => True) (fun _ => [(4, .v (.int .i64 12)), (6, .v (.int .i64 2)), (8, .v (.int .i64 2))]) (fun _ G' => G') rfl ?_ (fun _ _ _ _ h => .inl h) ?_ ?_
 ·rintro _ hI
  exact zL
 ·refine yR ?_
  try dsimp only [St.put]
  refine aops_e rfl (e_call_pure rfl rfl rfl (lawSea_pure) ?_)
  try dsimp only [St.put]
  refine aops_e rfl (e_call_pure rfl rfl rfl (exSEA) ?_)
  refine yM rfl rfl ?_
  refine yX rfl rfl rfl rfl ?_
  refine yX rfl rfl rfl rfl ?_
  refine yA rfl rfl ?_
  refine yN ?_
  dsimp only [St.put]
  exact ⟨(), trivial, ⟨⟨rfl, rfl⟩, zF, zB, zN, zX⟩⟩
 rintro _ hI
 dsimp only at hI ⊢
 refine yS fun _ K22 => ?_
 refine aw_draw [(1, none), (0, none), (2, none), (3, none), (4, none), (5, none), (6, none)] (fun i => [2].contains i) (fun i => [0, 2].contains i) (fun i => [3, 4, 5, 6].contains i) [] (by kernel_rfl) (by kernel_rfl) ?_
 try dsimp only [St.put]
 refine acan1_s rfl rfl rfl rfl (s_load_agg' rfl rfl rfl) ?_
 refine acan1_two ?_
 try dsimp only [St.put]
 refine acan2_e rfl rfl rfl (e_call_pure rfl rfl rfl (lawSea_pure) ⟨zD, ?_⟩)
 try dsimp only [St.put]
 refine acan2_late rfl rfl rfl rfl (e_call_pure rfl rfl rfl (exFew) ?_)
 refine acan2_n rfl rfl rfl rfl (n_mv rfl (by constructor)) ?_
 refine acan2_n rfl rfl rfl rfl (n_extract rfl rfl rfl) ?_
 refine acan2_n rfl rfl rfl rfl (n_extract rfl rfl rfl) ?_
 refine acan2_n rfl rfl rfl rfl (n_as rfl (by constructor)) ?_
 refine acan2_nil ?_
 dsimp only [St.put]
 refine K22 _ ?_
 refine aw_wipe 26 ?_
 simp only [firsts, getA, Nat.reduceAdd, List.getD_cons_zero, List.getD_cons_succ, List.getD_nil, natBeq, Nat.reduceBEq, cond_true, cond_false]
 refine aw_cutD (X := Unit) (fun _ => True) (fun _ => [(11, .v (.int .i64 8)), (16, .any), (17, .v (.int .i64 8))]) (fun _ G' => G') rfl ?_ (fun _ _ _ _ h => .inl h) ?_ ?_
 ·rintro _ hI
  exact zL
 ·refine aw_draw [(1, none), (0, none), (2, none), (3, none), (4, none), (5, none), (6, none), (7, none)] (fun i => [2].contains i) (fun i => [0, 2].contains i) (fun i => [3, 4, 5, 6, 7].contains i) [] (by kernel_rfl) (by kernel_rfl) ?_
  try dsimp only [St.put]
  refine acan1_s rfl rfl rfl rfl (s_load_agg' rfl rfl rfl) ?_
  refine acan1_two ?_
  try dsimp only [St.put]
  refine acan2_e rfl rfl rfl (e_call_pure rfl rfl rfl (lawSea_pure) ⟨zD, ?_⟩)
  try dsimp only [St.put]
  refine acan2_late rfl rfl rfl rfl (e_call_pure rfl rfl rfl (exFar) ?_)
  refine acan2_n rfl rfl rfl rfl (n_mv rfl (by constructor)) ?_
  refine acan2_n rfl rfl rfl rfl (n_extract rfl rfl rfl) ?_
  refine acan2_n rfl rfl rfl rfl (n_extract rfl rfl rfl) ?_
  refine acan2_n rfl rfl rfl rfl (n_as rfl (by constructor)) ?_
  refine acan2_n rfl rfl rfl rfl (n_as rfl (by constructor)) ?_
  refine acan2_nil ?_
  dsimp only [St.put]
  exact ⟨(), trivial, ⟨⟨rfl, rfl⟩, zF, zB, zN, zX⟩⟩
 rintro _ hI
 dsimp only at hI ⊢
 refine aw_wipe 26 ?_
 simp only [firsts, getA, Nat.reduceAdd, List.getD_cons_zero, List.getD_cons_succ, List.getD_nil, natBeq, Nat.reduceBEq, cond_true, cond_false]
 refine aw_cutD (X := Unit) (fun _ => True) (fun _ => [(18, .any), (19, .v (.int .i64 2))]) (fun _ G' => G') rfl ?_ (fun _ _ _ _ h => .inl h) ?_ ?_
 ·rintro _ hI
  exact zL
 ·refine yR ?_
  try dsimp only [St.put]
  refine aops_e rfl (e_call_pure rfl rfl rfl (lawSea_pure) ?_)
  try dsimp only [St.put]
  refine aops_e rfl (e_call_pure rfl rfl rfl (lawSea_pure) ?_)
  try dsimp only [St.put]
  refine aops_e rfl (e_call_pure rfl rfl rfl (exGreat) ?_)
  refine yM rfl rfl ?_
  refine yX rfl rfl rfl rfl ?_
  refine yX rfl rfl rfl rfl ?_
  try dsimp only [St.put]
  refine aops_e rfl (e_allocC rfl ?_)
  try dsimp only [St.put]
  refine aops_e rfl (e_store_all rfl rfl rfl zG rfl rfl (by rfl) ?_)
  refine yA rfl rfl ?_
  refine yN ?_
  dsimp only [St.put]
  exact ⟨(), trivial, ⟨⟨rfl, rfl⟩, zF, zB, zN, zX⟩⟩
 rintro _ hI
 dsimp only at hI ⊢
 refine aw_wipe 26 ?_
 simp only [firsts, getA, Nat.reduceAdd, List.getD_cons_zero, List.getD_cons_succ, List.getD_nil, natBeq, Nat.reduceBEq, cond_true, cond_false]
 refine aw_cutD (X := Unit) (fun _ => True) (fun _ => [(20, .any), (21, .v (.int .i64 4))]) (fun _ G' => G') rfl ?_ (fun _ _ _ _ h => .inl h) ?_ ?_
 ·rintro _ hI
  exact zL
 ·refine aw_drawT [] (fun _ => false) (fun i => [].contains i) 8 [false, false, false, false, false, false, false, false] (by kernel_rfl) (by kernel_rfl) ?_
  refine acan1_nil ?_
  refine aany_step [0, 1] (by kernel_rfl) (by simp) ?_
  refine aeach_cons ?_ ?_
  ·try dsimp only [St.put]
   refine aone_e rfl rfl rfl (e_call_pure rfl rfl rfl (lawSea_pure) ?_)
   refine aany_step [1] (by kernel_rfl) (by simp) ?_
   refine aeach_cons ?_ ?_
   ·try dsimp only [St.put]
    refine aone_e rfl rfl rfl (e_makeC (k := 6) (zs := [.v (.int .i64 0), .list [] .nil]) (⟨0, []⟩ : CopyD) rfl rfl rfl rfl rfl ⟨Wk.refl _, Wk.tok, trivial⟩ (by decide) (by decide) (by decide) ?_)
    refine aany_step [2] (by kernel_rfl) (by simp) ?_
    refine aeach_cons ?_ ?_
    ·try dsimp only [St.put]
     refine aone_e rfl rfl rfl (e_call_n rfl rfl rfl (exMany 0) zG (by dsimp only [St.put]; omega) ?_)
     refine aany_quiet [(3, none), (4, none), (5, none), (6, none), (7, none)] (fun i => [3, 4, 5, 6, 7].contains i) 0 [true, true, true, true, true, true, true, true] (by kernel_rfl) ?_
     refine xM rfl rfl rfl rfl rfl ?_
     refine acan1_n rfl rfl rfl rfl (n_extract rfl rfl rfl) ?_
     refine acan1_n rfl rfl rfl rfl (n_extract rfl rfl rfl) ?_
     refine acan1_n rfl rfl rfl rfl (n_as rfl (by constructor)) ?_
     refine acan1_n rfl rfl rfl rfl (n_as rfl (by constructor)) ?_
     refine acan1_nil ?_
     dsimp only [St.put]
     refine aany_nil (by kernel_rfl) ?_
     exact ⟨(), trivial, ⟨⟨rfl, rfl⟩, zF, zB, zN, zX⟩⟩
    exact aeach_nil
   exact aeach_nil
  refine aeach_cons ?_ ?_
  ·try dsimp only [St.put]
   refine aone_e rfl rfl rfl (e_makeC (k := 6) (zs := [.v (.int .i64 0), .list [] .nil]) (⟨0, []⟩ : CopyD) rfl rfl rfl rfl rfl ⟨Wk.refl _, Wk.tok, trivial⟩ (by decide) (by decide) (by decide) ?_)
   refine aany_step [0] (by kernel_rfl) (by simp) ?_
   refine aeach_cons ?_ ?_
   ·try dsimp only [St.put]
    refine aone_e rfl rfl rfl (e_call_pure rfl rfl rfl (lawSea_pure) ?_)
    refine aany_step [2] (by kernel_rfl) (by simp) ?_
    refine aeach_cons ?_ ?_
    ·try dsimp only [St.put]
     refine aone_e rfl rfl rfl (e_call_n rfl rfl rfl (exMany 0) zG (by dsimp only [St.put]; omega) ?_)
     refine aany_quiet [(3, none), (4, none), (5, none), (6, none), (7, none)] (fun i => [3, 4, 5, 6, 7].contains i) 0 [true, true, true, true, true, true, true, true] (by kernel_rfl) ?_
     refine xM rfl rfl rfl rfl rfl ?_
     refine acan1_n rfl rfl rfl rfl (n_extract rfl rfl rfl) ?_
     refine acan1_n rfl rfl rfl rfl (n_extract rfl rfl rfl) ?_
     refine acan1_n rfl rfl rfl rfl (n_as rfl (by constructor)) ?_
     refine acan1_n rfl rfl rfl rfl (n_as rfl (by constructor)) ?_
     refine acan1_nil ?_
     dsimp only [St.put]
     refine aany_nil (by kernel_rfl) ?_
     exact ⟨(), trivial, ⟨⟨rfl, rfl⟩, zF, zB, zN, zX⟩⟩
    exact aeach_nil
   exact aeach_nil
  exact aeach_nil
 rintro _ hI
 dsimp only at hI ⊢
 refine aw_wipe 26 ?_
 simp only [firsts, getA, Nat.reduceAdd, List.getD_cons_zero, List.getD_cons_succ, List.getD_nil, natBeq, Nat.reduceBEq, cond_true, cond_false]
 refine aw_cutD (X := Unit) (fun _ => True) (fun _ => [(22, .any), (23, .v (.int .i64 12))]) (fun _ G' => G') rfl ?_ (fun _ _ _ _ h => .inl h) ?_ ?_
 ·rintro _ hI
  exact zL
 ·refine yR ?_
  try dsimp only [St.put]
  refine aops_e rfl (e_call_pure rfl rfl rfl (lawSea_pure) ?_)
  try dsimp only [St.put]
  refine aops_e rfl (e_call_pure rfl rfl rfl (lawSalt_pure) ?_)
  try dsimp only [St.put]
  refine aops_e rfl (e_call_pure rfl rfl rfl (lawAt_pure _ _ _) ?_)
  try dsimp only [St.put]
  refine aops_e rfl (e_call_n rfl rfl rfl (exStands 0 rfl ex_st4) zG (by dsimp only [St.put]; omega) ?_)
  refine yM rfl rfl ?_
  refine yX rfl rfl rfl rfl ?_
  refine yX rfl rfl rfl rfl ?_
  refine yA rfl rfl ?_
  refine yA rfl rfl ?_
  refine yN ?_
  dsimp only [St.put]
  exact ⟨(), trivial, ⟨⟨rfl, rfl⟩, zF, zB, zN, zX⟩⟩
 rintro _ hI
 dsimp only at hI ⊢
 refine aw_wipe 26 ?_
 simp only [firsts, getA, Nat.reduceAdd, List.getD_cons_zero, List.getD_cons_succ, List.getD_nil, natBeq, Nat.reduceBEq, cond_true, cond_false]
 refine aw_cutD (X := Unit) (fun _ => True) (fun _ => [(24, .any), (25, .v (.int .i64 11))]) (fun _ G' => G') rfl ?_ (fun _ _ _ _ h => .inl h) ?_ ?_
 ·rintro _ hI
  exact zL
 ·refine aw_drawT [(1, none)] (fun _ => false) (fun i => [].contains i) 8 [false, true, false, false, false, false, false, false, false] (by kernel_rfl) (by kernel_rfl) ?_
  try dsimp only [St.put]
  refine acan1_s rfl rfl rfl rfl (s_load_agg' rfl rfl (Enc.len _)) ?_
  refine acan1_nil ?_
  refine aany_step [0, 6] (by kernel_rfl) (by simp) ?_
  refine aeach_cons ?_ ?_
  ·try dsimp only [St.put]
   refine aone_e rfl rfl rfl (e_call_pure rfl rfl rfl (lawSea_pure) ?_)
   refine aany_step [2, 6] (by kernel_rfl) (by simp) ?_
   refine aeach_cons ?_ ?_
   ·try dsimp only [St.put]
    refine aone_e rfl rfl rfl (e_call_n rfl rfl rfl (exWrong 0) zG (by dsimp only [St.put]; omega) ?_)
    refine aany_quiet [(3, none), (4, none), (5, none)] (fun i => [3, 4, 5].contains i) 3 [true, true, true, true, true, true, false, false, false] (by kernel_rfl) ?_
    refine xM rfl rfl rfl rfl rfl ?_
    refine acan1_n rfl rfl rfl rfl (n_extract rfl rfl rfl) ?_
    refine acan1_n rfl rfl rfl rfl (n_extract rfl rfl rfl) ?_
    refine acan1_nil ?_
    refine aany_step [6] (by kernel_rfl) (by simp) ?_
    refine aeach_cons ?_ ?_
    ·try dsimp only [St.put]
     refine aone_e rfl rfl rfl (e_allocC rfl ?_)
     refine aany_step [7] (by kernel_rfl) (by simp) ?_
     refine aeach_cons ?_ ?_
     ·try dsimp only [St.put]
      refine aone_e rfl rfl rfl (e_store_all rfl rfl rfl zG rfl rfl (by rfl) ?_)
      refine aany_quiet [(8, none)] (fun i => [8].contains i) 0 [true, true, true, true, true, true, true, true, true] (by kernel_rfl) ?_
      refine acan1_n rfl rfl rfl rfl (n_as rfl (by constructor)) ?_
      refine acan1_nil ?_
      dsimp only [St.put]
      refine aany_of_tr (tr_commit (i := 24) rfl zG (by first | exact List.cons_ne_nil _ _ | (simp; done) | (simp [putAt]; done))) ?_
      dsimp only
      refine aany_nil (by kernel_rfl) ?_
      exact ⟨(), trivial, ⟨⟨rfl, rfl⟩, zF, zB, zN, zX⟩⟩
     exact aeach_nil
    exact aeach_nil
   refine aeach_cons ?_ ?_
   ·try dsimp only [St.put]
    refine aone_e rfl rfl rfl (e_allocC rfl ?_)
    refine aany_step [2] (by kernel_rfl) (by simp) ?_
    refine aeach_cons ?_ ?_
    ·try dsimp only [St.put]
     refine aone_e rfl rfl rfl (e_call_n rfl rfl rfl (exWrong 0) zG (by dsimp only [St.put]; omega) ?_)
     refine aany_quiet [(3, none), (4, none), (5, none)] (fun i => [3, 4, 5].contains i) 2 [true, true, true, true, true, true, true, false, false] (by kernel_rfl) ?_
     refine xM rfl rfl rfl rfl rfl ?_
     refine acan1_n rfl rfl rfl rfl (n_extract rfl rfl rfl) ?_
     refine acan1_n rfl rfl rfl rfl (n_extract rfl rfl rfl) ?_
     refine acan1_nil ?_
     refine aany_step [7] (by kernel_rfl) (by simp) ?_
     refine aeach_cons ?_ ?_
     ·try dsimp only [St.put]
      refine aone_e rfl rfl rfl (e_store_all rfl rfl rfl zG rfl rfl (by rfl) ?_)
      refine aany_quiet [(8, none)] (fun i => [8].contains i) 0 [true, true, true, true, true, true, true, true, true] (by kernel_rfl) ?_
      refine acan1_n rfl rfl rfl rfl (n_as rfl (by constructor)) ?_
      refine acan1_nil ?_
      dsimp only [St.put]
      refine aany_of_tr (tr_commit (i := 24) rfl zG (by first | exact List.cons_ne_nil _ _ | (simp; done) | (simp [putAt]; done))) ?_
      dsimp only
      refine aany_nil (by kernel_rfl) ?_
      exact ⟨(), trivial, ⟨⟨rfl, rfl⟩, zF, zB, zN, zX⟩⟩
     exact aeach_nil
    exact aeach_nil
   exact aeach_nil
  refine aeach_cons ?_ ?_
  ·try dsimp only [St.put]
   refine aone_e rfl rfl rfl (e_allocC rfl ?_)
   refine aany_step [0] (by kernel_rfl) (by simp) ?_
   refine aeach_cons ?_ ?_
   ·try dsimp only [St.put]
    refine aone_e rfl rfl rfl (e_call_pure rfl rfl rfl (lawSea_pure) ?_)
    refine aany_step [2] (by kernel_rfl) (by simp) ?_
    refine aeach_cons ?_ ?_
    ·try dsimp only [St.put]
     refine aone_e rfl rfl rfl (e_call_n rfl rfl rfl (exWrong 0) zG (by dsimp only [St.put]; omega) ?_)
     refine aany_quiet [(3, none), (4, none), (5, none)] (fun i => [3, 4, 5].contains i) 2 [true, true, true, true, true, true, true, false, false] (by kernel_rfl) ?_
     refine xM rfl rfl rfl rfl rfl ?_
     refine acan1_n rfl rfl rfl rfl (n_extract rfl rfl rfl) ?_
     refine acan1_n rfl rfl rfl rfl (n_extract rfl rfl rfl) ?_
     refine acan1_nil ?_
     refine aany_step [7] (by kernel_rfl) (by simp) ?_
     refine aeach_cons ?_ ?_
     ·try dsimp only [St.put]
      refine aone_e rfl rfl rfl (e_store_all rfl rfl rfl zG rfl rfl (by rfl) ?_)
      refine aany_quiet [(8, none)] (fun i => [8].contains i) 0 [true, true, true, true, true, true, true, true, true] (by kernel_rfl) ?_
      refine acan1_n rfl rfl rfl rfl (n_as rfl (by constructor)) ?_
      refine acan1_nil ?_
      dsimp only [St.put]
      refine aany_of_tr (tr_commit (i := 24) rfl zG (by first | exact List.cons_ne_nil _ _ | (simp; done) | (simp [putAt]; done))) ?_
      dsimp only
      refine aany_nil (by kernel_rfl) ?_
      exact ⟨(), trivial, ⟨⟨rfl, rfl⟩, zF, zB, zN, zX⟩⟩
     exact aeach_nil
    exact aeach_nil
   exact aeach_nil
  exact aeach_nil
 rintro _ hI
 dsimp only at hI ⊢
 refine yS fun _ K28 => ?_
 refine aw_draw [(0, none), (1, none), (2, none), (3, none), (4, none), (5, none), (6, none), (7, none), (8, none), (9, none), (10, none), (11, none), (12, none), (13, none), (14, none), (15, none), (16, none), (17, none), (18, none), (19, none), (20, none), (21, none), (22, none), (23, none), (24, none), (25, none), (26, none), (27, none), (28, none), (29, none), (30, none), (31, none), (32, none), (33, none), (34, none), (35, none), (36, none), (37, none), (38, none), (40, none), (39, none), (41, none), (42, none), (43, none), (44, none), (45, none), (46, none), (47, none), (48, none), (49, none)] (fun i => [].contains i) (fun i => [39, 41, 45, 46].contains i) (fun i => [0, 1, 2, 3, 4, 5, 6, 7, 8, 9, 10, 11, 12, 13, 14, 15, 16, 17, 18, 19, 20, 21, 22, 23, 24, 25, 26, 27, 28, 29, 30, 31, 32, 33, 34, 35, 36, 37, 38, 42, 43, 44, 47, 48, 49].contains i) [] (by kernel_rfl) (by kernel_rfl) ?_
 refine xM rfl rfl rfl rfl rfl ?_
 refine acan1_n rfl rfl rfl rfl (n_bool (c := true) (n_eql rfl rfl rfl) (decide_eq_true rfl)) ?_
 refine xM rfl rfl rfl rfl rfl ?_
 refine xM rfl rfl rfl rfl rfl ?_
 refine acan1_n rfl rfl rfl rfl (n_bool (c := true) (n_eql rfl rfl rfl) (decide_eq_true rfl)) ?_
 refine acan1_n rfl rfl rfl rfl (n_pt rfl rfl (by constructor)) ?_
 refine xM rfl rfl rfl rfl rfl ?_
 refine xM rfl rfl rfl rfl rfl ?_
 refine acan1_n rfl rfl rfl rfl (n_bool (c := true) (n_eql rfl rfl rfl) (decide_eq_true rfl)) ?_
 refine acan1_n rfl rfl rfl rfl (n_pt rfl rfl (by constructor)) ?_
 refine xM rfl rfl rfl rfl rfl ?_
 refine xM rfl rfl rfl rfl rfl ?_
 refine acan1_n rfl rfl rfl rfl (n_bool (c := true) (n_eql rfl rfl rfl) (decide_eq_true rfl)) ?_
 refine acan1_n rfl rfl rfl rfl (n_pt rfl rfl (by constructor)) ?_
 refine xM rfl rfl rfl rfl rfl ?_
 refine xM rfl rfl rfl rfl rfl ?_
 refine acan1_n rfl rfl rfl rfl (n_bool (c := true) (n_eql rfl rfl rfl) (decide_eq_true rfl)) ?_
 refine acan1_n rfl rfl rfl rfl (n_pt rfl rfl (by constructor)) ?_
 refine xM rfl rfl rfl rfl rfl ?_
 refine xM rfl rfl rfl rfl rfl ?_
 refine acan1_n rfl rfl rfl rfl (n_bool (c := true) (n_eql rfl rfl rfl) (decide_eq_true rfl)) ?_
 refine acan1_n rfl rfl rfl rfl (n_pt rfl rfl (by constructor)) ?_
 refine xM rfl rfl rfl rfl rfl ?_
 refine xM rfl rfl rfl rfl rfl ?_
 refine acan1_n rfl rfl rfl rfl (n_bool (c := true) (n_eql rfl rfl rfl) (decide_eq_true rfl)) ?_
 refine acan1_n rfl rfl rfl rfl (n_pt rfl rfl (by constructor)) ?_
 refine xM rfl rfl rfl rfl rfl ?_
 refine xM rfl rfl rfl rfl rfl ?_
 refine acan1_n rfl rfl rfl rfl (n_bool (c := true) (n_eql rfl rfl rfl) (decide_eq_true rfl)) ?_
 refine acan1_n rfl rfl rfl rfl (n_pt rfl rfl (by constructor)) ?_
 refine xM rfl rfl rfl rfl rfl ?_
 refine xM rfl rfl rfl rfl rfl ?_
 refine acan1_n rfl rfl rfl rfl (n_bool (c := true) (n_eql rfl rfl rfl) (decide_eq_true rfl)) ?_
 refine acan1_n rfl rfl rfl rfl (n_pt rfl rfl (by constructor)) ?_
 refine xM rfl rfl rfl rfl rfl ?_
 refine xM rfl rfl rfl rfl rfl ?_
 refine acan1_n rfl rfl rfl rfl (n_bool (c := true) (n_eql rfl rfl rfl) (decide_eq_true rfl)) ?_
 refine acan1_n rfl rfl rfl rfl (n_pt rfl rfl (by constructor)) ?_
 refine xM rfl rfl rfl rfl rfl ?_
 try dsimp only [St.put]
 refine acan1_s rfl rfl rfl rfl (s_load_agg' rfl rfl (Enc.len _)) ?_
 refine acan1_two ?_
 try dsimp only [St.put]
 refine acan2_e rfl rfl rfl (e_call_pure rfl rfl rfl (lawSea_pure) ⟨zD, ?_⟩)
 try dsimp only [St.put]
 refine acan2_e rfl rfl rfl (e_call_n rfl rfl rfl (exCopy 0) zG (by dsimp only [St.put]; omega) ⟨zD, ?_⟩)
 refine acan2_n rfl rfl rfl rfl (n_bool (c := true) (n_eql rfl rfl rfl) (decide_eq_true rfl)) ?_
 refine acan2_n rfl rfl rfl rfl (n_pt rfl rfl (by constructor)) ?_
 refine acan2_n rfl rfl rfl rfl (n_mv rfl (by constructor)) ?_
 try dsimp only [St.put]
 refine acan2_e rfl rfl rfl (SStep.e' (s_load_agg' (D := fun _ => True) rfl rfl rfl) ⟨zD, ?_⟩)
 try dsimp only [St.put]
 refine acan2_e rfl rfl rfl (e_call_pure rfl rfl rfl (exCheck) ⟨zD, ?_⟩)
 refine acan2_n rfl rfl rfl rfl (n_bool (c := true) (n_eql rfl rfl rfl) (decide_eq_true rfl)) ?_
 refine acan2_n rfl rfl rfl rfl (n_pt rfl rfl (by constructor)) ?_
 refine acan2_n rfl rfl rfl rfl (n_as rfl (by constructor)) ?_
 refine acan2_nil ?_
 dsimp only [St.put]
 refine K28 _ ?_
 refine aw_ret ?_
 refine ends_1 rfl (by constructor) (by dsimp only; omega) (fun n o h => by have h9 := hlt n o h; dsimp only; (repeat (first | rw [delG_other (by omega)] | rw [setG_other (by omega)])); exact h) ?_
 rfl
end Go.Proofs.YtejhjijbgceklaaGreatDoor
