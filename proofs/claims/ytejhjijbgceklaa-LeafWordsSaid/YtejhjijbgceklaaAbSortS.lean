/-
 slices.SortFunc of texts that are the frame's own.
-/
import Derived.Test.YtejhjijbgceklaaAbCut
namespace Go.AB
open Go Go.RowKit Go.Proofs
open Go.AB.Enc (cells)
theorem flat_str (l : List ByteArray) : flatC l = l.map fun y => .v (.string y) := by
 induction l with
 | nil => rfl
 | cons y l ih =>
  have h1 : flatC (y :: l) = cells y ++ flatC l := by simp [flatC]
  rw [h1, ih]; rfl
theorem us_str {E : Env} {w : World} {l : List ByteArray} {us : List Value} (h : Rs E w (flatC l) us) : us = l.map Value.string ∧ ∀ y ∈ l, okV (Value.string y) = true := by
 have hlen := h.1
 rw [flat_str, List.length_map] at hlen
 have hj : ∀ j y, l[j]? = some y → us[j]? = some (Value.string y) ∧ okV (Value.string y) = true := fun j y hy => by
  have hlt := (List.getElem?_eq_some_iff.1 hy).1
  have h3 : us[j]? = some us[j] := List.getElem?_eq_getElem (by omega)
  have := h.2 j (.v (.string y)) us[j] (by rw [flat_str, List.getElem?_map, hy]; rfl) h3
  exact ⟨by rw [h3, this.v_inv], this.okVv⟩
 refine ⟨List.ext_getElem? fun j => ?_, fun y hy => ?_⟩
 ·rw [List.getElem?_map]
  cases hy : l[j]? with
  | none =>
   have := List.getElem?_eq_none_iff.1 hy
   rw [List.getElem?_eq_none (by omega)]; rfl
  | some y => exact (hj j y hy).1
 ·obtain ⟨j, hy⟩ := List.getElem?_of_mem hy
  exact (hj j y hy).2
theorem rs_str {E : Env} {w : World} {l : List ByteArray} (h : ∀ y ∈ l, okV (Value.string y) = true) : Rs E w (flatC l) (l.map Value.string) := by
 rw [flat_str]
 refine ⟨by simp, fun j c v hc hv => ?_⟩
 rw [List.getElem?_map] at hc hv
 cases hy : l[j]? with
 | none => rw [hy] at hc; cases hc
 | some y =>
  rw [hy] at hc hv
  cases hc; cases hv
  exact .v (h y (List.mem_of_getElem? hy))
theorem e_sortS {P : Program} {o : Oper} {st : St} {K : St → Prop} {q : Go.Shelf.Ren} (L : SlLaysF0.n6 P q) [Ty P (q.t 24) false 1] {n ver wv m : Nat} {e : TypeId} {xs : List ByteArray} {cs : List C} (cf : ByteArray → ByteArray → Int) {f g : FuncId} [Fun P g] {fv s x : Operand} {ats : Array TypeId}
  (ho : o.op = .call { callee := .value fv, args := #[s, x], argTypes := ats }) (hf : evC st fv = .fn (.func f) []) (hfq : f = q.f 6) (hs : evC st s = .own n ver m) (hG : st.G n = some (.arr ver wv e 1 m cs)) (hcs : cs = flatC xs) (hm : m = xs.length) (hx : evC st x = .fn (.func g) [])
  (hlen : xs.length < 4611686018427387904)
  (hcf : ∀ a b, Pure P g [.v (.string a), .v (.string b)] (.v (.int .i64 (cf a b)))) (hO : Ord3 (fun _ => True) cf)
  (h : ∀ ys : List ByteArray, ys.Perm xs → ys.Pairwise (fun a b => ¬ cf b a < 0) → K (St.put { st with G := setG st.G n (.arr ver (wv + 1) e 1 m (flatC ys)) } o.dst (.tup []))) : EStep P o st K := by
 subst hfq; subst hcs; subst hm
 intro E w a hsim Kr Q hq
 obtain ⟨fs, e1, hfs⟩ := (hf ▸ hsim.ev fv).fn_inv
 have hfs0 : fs = [] := List.eq_nil_of_length_eq_zero hfs.1
 subst hfs0
 obtain ⟨vs, e2, hvs⟩ := (hx ▸ hsim.ev x).fn_inv
 have hvs0 : vs = [] := List.eq_nil_of_length_eq_zero hvs.1
 subst hvs0
 obtain ⟨val, us, hT, hown, hcone, hrs, hL, hsz1⟩ := hsim.g.obj n _ hG
 obtain ⟨e3, q1, ad, cap, e4, h6, h7⟩ := own_at (hs ▸ hsim.ev s) hT hown
 obtain ⟨hus, hoks⟩ := us_str hrs
 unfold Oper.wp
 have hrun : (execOp a.eval o).run P w = .ok (.enter (q.f 6) #[a.eval s, a.eval x]) w := by
  simp only [execOp, ho, resolve, e1]
  have hcf6 := L.f6.enters rfl #[a.eval s, a.eval x] w
  simpa [Deferred.ofValue, invoke] using hcf6
 rw [hrun, e2, e4]
 -- what is changed
 have fin : ∀ (w' : World) (ys : List ByteArray), ys.Perm xs → ys.Pairwise (fun a b => ¬ cf b a < 0) → Below E.B w w' → (∀ k, k < w.heap.size → blk val ≠ some k → w'.heap[k]? = w.heap[k]?) →
   (∀ b (o : Obj), blk val = some b → w.heap[b]? = some o → ∃ o' : Obj, w'.heap[b]? = some o' ∧ o'.isCells = o.isCells) → w'.ownsRow E.B e 1 val xs.length (ys.map Value.string) →
   Kr (a.put o.dst (.tuple #[])) w' := by
  intro w' ys hp1 hp2 hb hold hic how'
  have hchg : Chg E w w' ver wv val ver (wv + 1) val 0 := ⟨hb, hold, fun b hb => .inl ⟨hb, by rw [hL b hb]; exact Nat.le_refl _⟩, fun b i hb hi => by rw [hL b hb] at hi; omega, .inr ⟨rfl, rfl, by omega⟩, hic, fun hv => absurd hv (Nat.lt_irrefl _), fun b _ hl => absurd hl (Nat.not_lt_zero _)⟩
  have hev := Ev.chg hsim.g hT hchg
  have hobj : ObjOk (E.chg n (ver, wv + 1, val) 0) w' n (.arr ver (wv + 1) e 1 xs.length (flatC ys)) :=
   ⟨val, ys.map Value.string, by simp [Env.chg], how', fun c hc => by rw [flat_str] at hc; obtain ⟨y, _, rfl⟩ := List.mem_map.1 hc; rfl, rs_str fun y hy => hoks y (hp1.mem_iff.1 hy), fun b hb => by simp [Env.chg, hb], hsz1⟩
  exact hq _ _ _ _ hev ((hsim.evd hev (SimG.chg hsim.g hT hchg hobj)).put o.dst (R.undef _ _)) (h ys hp1 hp2)
 by_cases h0 : xs = []
 ·subst h0
  refine (AnyF.slices_SortFunc_none L ad cap _ w).mono ?_
  rintro e' w' ⟨rfl, rfl⟩
  exact fin w' [] List.Perm.nil List.Pairwise.nil (Below.refl _ _) (fun _ _ _ => rfl) (fun b o _ ho => ⟨o, ho, rfl⟩) (hus ▸ hown)
 ·obtain ⟨y0, hy0⟩ := List.exists_mem_of_ne_nil xs h0
  letI : Inhabited { y : ByteArray // okV (Value.string y) = true } := ⟨⟨y0, hoks y0 hy0⟩⟩
  have hn1 : 1 ≤ xs.length := by cases xs with | nil => exact absurd rfl h0 | cons => simp
  obtain ⟨gb, cap', cur, hval, hgB, hh, hc1, hc2, hc3, hc4⟩ : ∃ gb cap' cur, val = .slice (some ⟨gb, 0, none⟩) xs.length cap' ∧ E.B ≤ gb ∧ w.heap[gb]? = some (.cells cur e (0, 0)) ∧ xs.length ≤ cap' ∧ cap' ≤ maxLen ∧ cur.size = cap' * 1 ∧ us = cur.toList.take (xs.length * 1) := by
   rcases hown.2 with ⟨_, q0⟩ | ⟨g', c', cu, q2, q3, q4, q5, q6, q7, q8⟩
   ·omega
   ·exact ⟨g', c', cu, q2, q3, q4, q5, q6, q7, q8.symm⟩
  have e5 : ad = some ⟨gb, 0, none⟩ ∧ cap = cap' := by
   have := e4.symm.trans (e3.trans hval)
   simp only [Value.slice.injEq] at this
   exact ⟨this.1, this.2.2⟩
  obtain ⟨rfl, rfl⟩ := e5
  have hgb := (Array.getElem?_eq_some_iff.1 hh).1
  let enc : { y : ByteArray // okV (Value.string y) = true } → Value := fun y => .string y.1
  let d : Array { y : ByteArray // okV (Value.string y) = true } := (xs.attachWith _ hoks).toArray
  have hd : d.toList.map (·.1) = xs := by simp [d]
  have hds : d.size = xs.length := by simp [d]
  have hcur : xs.length ≤ cur.size := by rw [hc3, Nat.mul_one]; exact hc1
  have hH : Sort.Holds enc w gb 0 d := by
   intro j hj
   rw [hds] at hj
   have h8 : d.toList.map enc = us := by rw [hus, ← hd, List.map_map]; rfl
   have h9 : us[j]? = some (enc d[j]!) := by
    rw [← h8, List.getElem?_map, Array.getElem?_toList, getElem!_pos d j (by rw [hds]; exact hj), Array.getElem?_eq_getElem]
    rfl
   rw [hc4, List.getElem?_take_of_lt (by omega), Array.getElem?_toList] at h9
   refine ⟨by rw [Nat.zero_add]; exact cell_of_heap hh h9, ?_⟩
   simp [World.frozen?, hh]
  have hcmp : CmpLays1 P g #[] enc (fun a b => cf a.1 b.1) gb 0 d.size w := by
   intro mm os dk hdk y z
   have hW1 : ∀ k, k < w.heap.size → k ≠ gb → (sortWorld enc w gb 0 mm dk os).heap[k]? = w.heap[k]? := fun k hk hne => by
    show (Sort.grow (Sort.putRow enc (Sort.ahead w mm) gb 0 dk) os).heap[k]? = _
    rw [Sort.heap_grow_old _ _ (by simpa using hk)]
    exact heap_putE_other enc dk hne
   have hW2 : w.heap.size ≤ (sortWorld enc w gb 0 mm dk os).heap.size := by
    show _ ≤ (Sort.grow (Sort.putRow enc (Sort.ahead w mm) gb 0 dk) os).heap.size
    rw [Sort.size_grow, Sort.size_putRow]; exact Nat.le_add_right _ _
   generalize sortWorld enc w gb 0 mm dk os = W at hW1 hW2
   have hLg : E.L gb = 0 := hL gb (by rw [hval]; rfl)
   have he : EvR E w (E.only fun k => decide (k ≠ n)) W := EvR.only E _ fun b i hi => by
    by_cases hbg : b = gb
    ·subst hbg; omega
    ·by_cases hbs : b < w.heap.size
     ·exact World.cell?_of_block (hW1 b hbs hbg)
     ·rw [hsim.g.fresh b (by omega)] at hi; omega
   have hg3 : SimG (E.only fun k => decide (k ≠ n)) W (delG st.G n) st.nx := hsim.g.move he rfl hW2 rfl (fun k t ht => (Env.only_of ht).1) (fun k o' ho' => by
    have hkn : k ≠ n := fun e => by subst e; simp [delG] at ho'
    exact ⟨(delG_other hkn).symm.trans ho', Env.only_same (decide_eq_true hkn)⟩) (fun k t b ht hb => by
    obtain ⟨h8, h9⟩ := Env.only_of ht
    have hkn : k ≠ n := of_decide_eq_true h9
    refine hW1 b (hsim.g.tb k _ _ _ b h8 hb).2 fun e => ?_
    subst e
    exact hsim.g.ap k n _ _ b h8 hT hkn hb (by show blk val = some b; rw [hval]; rfl))
   have hr3 : Rs (E.only fun k => decide (k ≠ n)) W [.v (.string y.1), .v (.string z.1)] [.string y.1, .string z.1] := Rs.cons (.v y.2) (Rs.cons (.v z.2) Rs.nil)
   have hc := exact_of_pc (hcf y.1 z.1 _ _) hr3 hg3
   have hargs : (#[enc y, enc z] ++ #[] : Array Value) = [Value.string y.1, .string z.1].toArray := by simp [enc]
   rw [hargs]
   refine hc.mono ?_
   rintro e' w' ⟨v, E', rfl, hv, hw⟩
   rw [hv.v_inv]
   exact ⟨rfl, hw⟩
  have hO' : Sort.SWO (ltOf fun a b : { y : ByteArray // okV (Value.string y) = true } => cf a.1 b.1) := ⟨fun y => decide_eq_false (hO.irrefl _ trivial), fun y z u h8 h9 => decide_eq_true (hO.trans _ _ _ trivial trivial trivial (of_decide_eq_true h8) (of_decide_eq_true h9)), fun y z u h8 h9 => decide_eq_false (hO.ntrans _ _ _ trivial trivial trivial (of_decide_eq_false h8) (of_decide_eq_false h9))⟩
  have L1 : SlLaysF.n6 P q := { L with a24 := fun w => Ty.row (P := P) (w := w), z24 := fun w => Ty.size (P := P) (w := w) }
  have hcall := Any.slices_SortFunc L1 enc (fun y => rfl) (fun a b => cf a.1 b.1) hO' g #[] gb 0 cap d w (fun args w => run_callFunc args w) hcmp hH hgb (by rw [hds]; exact hlen)
  rw [hds] at hcall
  refine hcall.mono ?_
  rintro e' w' ⟨rfl, d', nn, os, hperm, hsorted, hw⟩
  have hd's : d'.size = xs.length := hperm.1.trans hds
  have hpm : d'.toList.Perm d.toList := by
   have := hperm.2.2
   rwa [← hds, Array.extract_size, hds, ← hd's, Array.extract_size] at this
  subst hw
  have hold : ∀ k, k < w.heap.size → k ≠ gb → (sortWorld enc w gb 0 nn d' os).heap[k]? = w.heap[k]? := fun k hk hne => by
   show (Sort.grow (Sort.putRow enc (Sort.ahead w nn) gb 0 d') os).heap[k]? = _
   rw [Sort.heap_grow_old _ _ (by simpa using hk)]
   exact heap_putE_other enc d' hne
  have hnew : (sortWorld enc w gb 0 nn d' os).heap[gb]? = some (.cells (Sort.putCells enc 0 d' cur) e (0, 0)) := by
   show (Sort.grow (Sort.putRow enc (Sort.ahead w nn) gb 0 d') os).heap[gb]? = _
   rw [Sort.heap_grow_old _ _ (by simpa using hgb)]
   exact heap_putE enc d' hh
  refine fin _ (d'.toList.map (·.1)) (hd ▸ hpm.map _) ?_ ⟨rfl, rfl, rfl, ?_, fun k hk => hold k (Nat.lt_of_lt_of_le hk hsim.g.base) (by omega)⟩ (fun k hk hne => hold k hk fun e => hne (by rw [e, hval]; rfl)) (fun b o hb ho => ?_) ⟨?_, .inr ⟨gb, cap, _, hval, hgB, hnew, hc1, hc2, ?_, ?_⟩⟩
  ·rw [List.pairwise_map, List.pairwise_iff_getElem]
   intro i j hi hj hij
   rw [Array.length_toList] at hi hj
   have := of_decide_eq_false (hsorted i j (Nat.zero_le _) hij (by omega))
   rw [getElem!_pos d' i hi, getElem!_pos d' j hj] at this
   simpa using this
  ·show _ ≤ (Sort.grow (Sort.putRow enc (Sort.ahead w nn) gb 0 d') os).heap.size
   rw [Sort.size_grow, Sort.size_putRow]; exact Nat.le_add_right _ _
  ·rw [hval] at hb
   simp only [blk, Option.some.injEq] at hb
   subst hb
   rw [hh] at ho
   cases ho
   exact ⟨_, hnew, rfl⟩
  ·rw [List.length_map, List.length_map, Array.length_toList, hd's, Nat.mul_one]
  ·simp only [Sort.putCells, Array.size_mapIdx]; exact hc3
  ·rw [take_putE enc _ _ _ (by omega) (by omega), List.map_map, List.take_of_length_le (by rw [Array.length_toList]; omega)]
   rfl
end Go.AB
