/-
  Slices that are made at once and written in place: a variable's cells, seen through a slice.
-/
import Derived.Test.YtolcenpmgmpmkaaDoorAbTwelve
import Derived.Laws.OwnMore
import Derived.Laws.Small
namespace Go.AB
open Go Go.RowKit
open Go.AB.Enc (cells)
variable {ρ : Option Nat}

theorem set_low {m i : Nat} {cs : List C} {d : C} (h : ∀ c ∈ cs, C.low m c) (k : d.low m) : ∀ c ∈ cs.set i d, C.low m c := fun c hc => by
  rcases List.mem_or_eq_of_mem_set hc with hc | rfl
  · exact h c hc
  · exact k
theorem idx_succ (k : Nat) : (k : Int) + 1 = ((k + 1 : Nat) : Int) := rfl
section
variable {P : Program} {o : Oper} {st : St} {K : St → Prop}
theorem e_make {t e : TypeId} {bytes : Nat} {z : C} {l c : Operand} {kl kc : IntKind} {nl nc : Int} {k : Nat} [AppT P t e 1 bytes] [ZeroC P e [z]] (ho : o.op = .makeSlice t l c) (hl : evC st l = .v (.int kl nl)) (hc : evC st c = .v (.int kc nc)) (hn : nl = (k : Int)) (hnc : nc = nl) (hb : bytes * k ≤ 281474976710656) (hm : k ≤ 9223372036854775807)
    (h : K (St.put { st with G := setG st.G st.nx (.box 0 (List.replicate k z)), nx := st.nx + 1 } o.dst (.arr st.nx k))) : EStep P o st K :=
  estep_run fun E w a hs => by
    subst hn; subst hnc
    obtain ⟨ht, i, y, hie, hz, h1, h2, h3⟩ := AppT.spec (P := P) (t := t) (e := e) (sz := 1) (bytes := bytes)
    obtain ⟨v, hv, hr, hone⟩ := ZeroC.run (P := P) (t := e) E w
    have hvy : v = y := by
      have := hv w
      rw [show (zeroValue e).run P w = .ok y w by simp [zeroValue, typeInfo, hie, hz]] at this
      simpa using this.symm
    subst hvy
    obtain ⟨u, hu⟩ : ∃ u, v.cells = #[u] := by
      have : v.cells.size = 1 := h3
      exact ⟨v.cells[0], by apply Array.ext (by simp [h3]); intro j h1 h2; simp at h2; subst h2; rfl⟩
    rw [hu] at hr
    have hrz : R E w z u := hr.2 0 z u rfl rfl
    have e1 := (hl ▸ hs.ev l).v_inv
    have e2 := (hc ▸ hs.ev c).v_inv
    have hbi : (i.bytes : Int) * (k : Int) ≤ 281474976710656 := by
      rw [h2, ← Int.natCast_mul]; omega
    have hrun := run_make (P := P) w t e i v ht hie hz kl kc k k (by omega) (Int.le_refl _) hbi (by omega)
    simp only [Int.toNat_natCast, h1, Nat.mul_one, hu] at hrun
    have hrs : Rs E w (List.replicate k z) (madeCells #[u] k).toList := by
      rw [toList_madeCells_one]
      refine ⟨by simp, fun j d x hd hx => ?_⟩
      rw [List.getElem?_replicate] at hd hx
      split at hd
      · rename_i hj
        rw [if_pos hj] at hx
        simp only [Option.some.injEq] at hd hx
        subst hd; subst hx
        exact hrz
      · cases hd
    obtain ⟨E', q1, q2, q3⟩ := name_box hs e hrs (fun d hd => by obtain ⟨_, rfl⟩ := List.mem_replicate.1 hd; exact hone _ (List.mem_cons_self ..))
    refine ⟨.slice (some ⟨w.heap.size, 0, none⟩) k k, _, E', _, _, _, ?_, q1, ?_, q3, h⟩
    · simp only [execOp, ho, Sem.run_bind, e1, e2]
      rw [hrun]; rfl
    · cases q2 with
      | box b1 b2 => exact .arr b1 (Nat.le_refl _) (by unfold maxLen; omega) b2

theorem e_store_one {t : TypeId} [Ty P t false 1] {x y : Operand} {n off wv : Nat} {cs : List C} {c : C} (ho : o.op = .store t x y) (hd : o.dst = none) (hx : evC st x = .box n 0 off) (hG : st.G n = some (.box wv cs)) (hy : Is (evC st y) c) (hc : cellsC c = some [c]) (hb : off < cs.length)
    (h : K { st with G := setG st.G n (.box (wv + 1) (cs.set off c)) }) : EStep P o st K :=
  e_store_1 ho hd hx hG (by rw [hy.eq]; exact hc) hb h
theorem n_len_arr {t : TypeId} {x : Operand} {n len : Nat} {e : TypeId} [Elt P t e] (ho : o.op = .call { callee := .builtin .len, args := #[x], argTypes := #[t] }) (hx : evC st x = .arr n len) : NStep P o st (.v (.int .i64 len)) := fun E w a hs => by
  have hr := hx ▸ hs.ev x
  generalize hv : a.eval x = v at hr
  cases hr with
  | arr h1 h2 h3 h4 =>
  refine ⟨_, .v (okV_i64 (by unfold maxLen at h3; omega)), fun w' => ?_⟩
  have := Elt.spec (P := P) (t := t) (e := e)
  simp [execOp, ho, resolve, invoke, builtin, Builtin.len_, run_underlying this, hv, goInt]

theorem n_indexAddr_arr {t : TypeId} {x i : Operand} {m len : Nat} {e : TypeId} {ik : IntKind} {n : Int} {k sz : Nat} {ag : Bool} [Elt P t e] [Ty P e ag sz] (ho : o.op = .indexAddr t x i) (hx : evC st x = .arr m len) (hi : evC st i = .v (.int ik n)) (hn : n = (k : Int)) (hk : k < len) : NStep P o st (.box m 0 (k * sz)) := fun E w a hs => by
  subst hn
  have hr := hx ▸ hs.ev x
  have e1 := (hi ▸ hs.ev i).v_inv
  generalize hv : a.eval x = v at hr
  cases hr with
  | @arr _ _ b cap h1 h2 h3 h4 =>
  refine ⟨.pointer (some ⟨b, k * sz, none⟩), .box h1 h4, fun w' => ?_⟩
  have q1 := Elt.spec (P := P) (t := t) (e := e)
  have q2 := Ty.size (P := P) (w := w') (t := e) (ag := ag) (n := sz)
  have q3 : (k : Int) < (len : Int) := by omega
  simp [execOp, ho, Instr.indexAt, hv, e1, asIntOf, run_underlying q1, q2, q3, addr_add]
  intro h; omega
theorem n_indexAddr_arr1 {t : TypeId} {x i : Operand} {m len : Nat} {e : TypeId} {ik : IntKind} {n : Int} {k : Nat} [Elt P t e] [Ty P e false 1] (ho : o.op = .indexAddr t x i) (hx : evC st x = .arr m len) (hi : evC st i = .v (.int ik n)) (hn : n = (k : Int)) (hk : k < len) : NStep P o st (.box m 0 k) := by
  have := n_indexAddr_arr (P := P) (o := o) (st := st) (e := e) (ag := false) (sz := 1) ho hx hi hn hk
  rwa [Nat.mul_one] at this

theorem n_min {x y : Operand} {ts : Array TypeId} {k k' : IntKind} {p q : Int} (ho : o.op = .call { callee := .builtin .min, args := #[x, y], argTypes := ts }) (hx : evC st x = .v (.int k p)) (hy : evC st y = .v (.int k' q)) (hk : k = k') : NStep P o st (.v (.int k (min p q))) := fun E w a hs => by
  subst hk
  have e1 := (hx ▸ hs.ev x).v_inv
  have e2 := (hy ▸ hs.ev y).v_inv
  have r1 := (hx ▸ hs.ev x)
  have r2 := (hy ▸ hs.ev y)
  rw [e1] at r1
  rw [e2] at r2
  refine ⟨.int k (min p q), ?_, fun w' => ?_⟩
  · cases r1 with
    | v h1 =>
      cases r2 with
      | v h2 =>
        refine .v ?_
        rcases Int.le_total p q with h | h
        · rw [Int.min_eq_left h]; exact h1
        · rw [Int.min_eq_right h]; exact h2
  · have e3 : (if q < p then q else p) = min p q := by
      split
      · rw [Int.min_eq_right (by omega)]
      · rw [Int.min_eq_left (by omega)]
    simp [execOp, ho, resolve, invoke, builtin, e1, e2, run_min_int2, e3]
end

section
variable {P : Program} {Q : Exit → St → Prop} {st : St}
/-- A variable's cells are laid. -/
theorem commit_core {E : Env} {w : World} {a : Act} (hs : Sim E w st a) {n wv : Nat} {cs : List C} (hG : st.G n = some (.box wv cs)) :
    ∃ E' b, Ev E w E' w ∧ SimG E' w (delG st.G n) st.nx ∧ E'.T = E.T ∧ E.T n = some (0, wv, .pointer (some ⟨b, 0, none⟩)) ∧ (∀ c ∈ cs, c.one = true) ∧ ∃ us : Nat → Value, (0 + cs.length ≤ E'.L b ∧ ∀ j, j < cs.length → w.cell? ⟨b, 0 + j, none⟩ = some (us j)) ∧ ∀ j c, cs[j]? = some c → R E' w c (us j) := by
  obtain ⟨b, us, tt, hT, hh, hone, hr, hL⟩ := hs.g.obj n _ hG
  have hbn := hs.g.tb n _ _ _ b hT rfl
  have hlen := hr.1
  simp only [Array.length_toList] at hlen
  have hE : Ev E w { E with L := fun k => if k = b then us.size else E.L k } w := by
    refine ⟨Below.refl _ _, rfl, fun k => ?_, fun _ _ _ => rfl, Nat.le_refl _, fun n _ ver wv val h => ⟨ver, wv, val, h, Nat.le_refl _, fun _ => ⟨rfl, fun _ _ _ => rfl⟩⟩, fun n ver wv wv' val h h' _ => by rw [show ({ E with L := fun k => if k = b then us.size else E.L k } : Env).T = E.T from rfl, h] at h'; simp at h'; omega, ?_⟩
    · show E.L k ≤ if k = b then us.size else E.L k
      split
      · rename_i e; subst e; rw [hL]; exact Nat.zero_le _
      · exact Nat.le_refl _
    · refine ⟨rfl, fun k hk => ?_, fun _ _ h _ _ => h, fun _ o h => ⟨o, h, rfl⟩, fun _ t _ _ h k _ _ => ⟨t, h, k⟩, fun n t t' _ _ h1 h2 hv _ => by rw [show ({ E with L := fun k => if k = b then us.size else E.L k } : Env).T = E.T from rfl, h1] at h2; cases h2; omega⟩
      have hk' : E.L k < if k = b then us.size else E.L k := hk
      split at hk'
      · rename_i e
        subst e
        exact ⟨us[0], by simp [World.cell?, hh, show 0 < us.size by omega]⟩
      · omega
  have hrE := hr.ev hE
  refine ⟨_, b, hE, ⟨hs.g.nx, fun k o ho => ?_, hs.g.lt, hs.g.tb, hs.g.ap, fun k hk => ?_, hs.g.base⟩, rfl, hT, hone, fun j => us.toList.getD j undef, ⟨?_, fun j hj => ?_⟩, hrE.us.1⟩
  · have hkn : k ≠ n := fun e => by subst e; simp [delG] at ho
    rw [delG_other hkn] at ho
    refine (hs.g.obj k o ho).keep hE rfl fun ver wv val b' h1 h2 => ⟨rfl, ?_⟩
    have hne : b' ≠ b := fun e => by subst e; exact hs.g.ap k n _ _ b' h1 hT hkn h2 rfl
    show (if b' = b then us.size else E.L b') = E.L b'
    rw [if_neg hne]
  · show (if k = b then us.size else E.L k) = 0
    rw [if_neg (by omega)]
    exact hs.g.fresh k hk
  · show 0 + cs.length ≤ if b = b then us.size else E.L b
    rw [if_pos rfl]; omega
  · rw [Nat.zero_add]
    refine cell_of_heap hh ?_
    rw [← Array.getElem?_toList]
    exact hrE.us.2 j hj

theorem R.arr_list {E E' : Env} {w : World} {n wv len b : Nat} {cs : List C} {rows : List (List C)} {sz : Nat} {us : Nat → Value} {v : Value} (h : R E w (.arr n len) v) (hT : E.T n = some (0, wv, .pointer (some ⟨b, 0, none⟩)))
    (h1 : 0 + cs.length ≤ E'.L b ∧ ∀ j, j < cs.length → w.cell? ⟨b, 0 + j, none⟩ = some (us j)) (h2 : ∀ j c, cs[j]? = some c → R E' w c (us j)) (hone : ∀ c ∈ cs, c.one = true) (hlen : rows.length = len) (hcs : cs = rows.flatten) (hsz : ∀ r ∈ rows, r.length = sz) (h0 : 1 ≤ sz) : R E' w (.list rows .none) v := by
  subst hcs; subst hlen
  cases h with
  | @arr _ _ b' cap q1 q2 q3 q4 =>
  have hb : b' = b := by
    have := (q4 _ _ _ hT).2 rfl
    simp only [blk, Option.some.injEq] at this
    exact this.symm
  subst hb
  exact .list q2 q3 h0 hsz (fun r hr c hc => hone c (List.mem_flatten.2 ⟨r, hr, hc⟩)) (.inr ⟨b', 0, rfl, h1⟩) h2 (by simp) (by simp) (by simp)

/-- A made slice is laid for good: as a temporary holds it. -/
theorem aw_commit_arr {c : Code} {α : Type} [Enc α] (i : Nat) {n wv len : Nat} {cs : List C} (xs : List α) (h0 : st.at i = .arr n len) (hG : st.G n = some (.box wv cs)) (hlen : xs.length = len) (hcs : cs = (xs.map cells).flatten) (hsz : 1 ≤ Enc.n α) (h : AW ρ P c Q { st with r := (i, lst xs) :: st.r, G := delG st.G n }) : AW ρ P c Q st := by
  intro E w a hs
  obtain ⟨E', b, hE, hg', hTT, hT, hone, us, h1, h2⟩ := commit_core hs hG
  have hp := hs.at i
  rw [h0] at hp
  have hl : R E' w (lst xs) (a.tmps.getD i undef) := hp.arr_list hT h1 h2 hone (by simpa using hlen) hcs (map_len xs) hsz
  have hs2 := hs.evd hE hg'
  refine cwp_mono (fun _ _ _ hq => lift_trans hE hq) (h _ w a ⟨hs.d.ev hE, hs.sz, fun j v hj => ?_, hg'⟩)
  simp only [getA]
  cases hb : Nat.beq i j
  · exact hs2.t j v hj
  · have hij := Nat.eq_of_beq_eq_true hb
    subst hij
    have hv : a.tmps.getD i undef = v := by rw [Array.getD_eq_getD_getElem?, hj]; rfl
    exact hv ▸ hl

/-- .. as a variable's cell holds it. -/
theorem aw_commit_cell {c : Code} {α : Type} [Enc α] (m off : Nat) {n wv wm len : Nat} {cs ds : List C} (xs : List α) (hM : st.G m = some (.box wm ds)) (h0 : ds[off]? = some (.arr n len)) (hG : st.G n = some (.box wv cs)) (hnm : m ≠ n) (hlen : xs.length = len) (hcs : cs = (xs.map cells).flatten) (hsz : 1 ≤ Enc.n α) (h : AW ρ P c Q { st with G := setG (delG st.G n) m (.box wm (ds.set off (lst xs))) }) : AW ρ P c Q st := by
  intro E w a hs
  obtain ⟨E', b, hE, hg', hTT, hT, hone, us, h1, h2⟩ := commit_core hs hG
  obtain ⟨b2, us2, tt2, hT2, hh2, hone2, hr2, hL2⟩ := hs.g.obj m _ hM
  have hs2 := hs.evd hE hg'
  refine cwp_mono (fun _ _ _ hq => lift_trans hE hq) (h E' w a ⟨hs.d.ev hE, hs.sz, hs2.t, ⟨hg'.nx, fun k o ho => ?_, hg'.lt, hg'.tb, hg'.ap, hg'.fresh, hg'.base⟩⟩)
  simp only [setG] at ho
  split at ho
  · rename_i ek
    subst ek
    simp only [Option.some.injEq] at ho
    subst ho
    obtain ⟨b3, us3, tt3, hT3, hh3, hone3, hr3, hL3⟩ := hg'.obj k (.box wm ds) (by rw [delG_other hnm]; exact hM)
    refine ⟨b3, us3, tt3, hT3, hh3, fun d hd => ?_, ⟨by rw [hr3.1]; simp, fun j d v hd hv => ?_⟩, hL3⟩
    · rcases List.mem_or_eq_of_mem_set hd with hd | rfl
      · exact hone3 d hd
      · rfl
    · rw [List.getElem?_set] at hd
      split at hd
      · rename_i ej
        subst ej
        split at hd
        · simp only [Option.some.injEq] at hd
          subst hd
          have e1 : us3 = us2 := by
            rw [hTT, hT2] at hT3
            simp only [Option.some.injEq, Prod.mk.injEq, Value.pointer.injEq, Addr.mk.injEq, true_and, and_true] at hT3
            subst hT3
            rw [hh2] at hh3
            simp only [Option.some.injEq, Obj.cells.injEq] at hh3
            exact hh3.1.symm
          subst e1
          exact (hr2.2 off _ v h0 hv).arr_list hT h1 h2 hone (by simpa using hlen) hcs (map_len xs) hsz
        · cases hd
      · exact hr3.2 j d v hd hv
  · exact hg'.obj k o ho
end
end Go.AB
