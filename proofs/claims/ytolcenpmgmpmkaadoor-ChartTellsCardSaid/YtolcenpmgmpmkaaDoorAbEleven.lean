/-
  Names for slices that grow; two variables made in either order; typed append.
-/
import Derived.Test.YtolcenpmgmpmkaaDoorAbTen
namespace Go.AB
open Go Go.RowKit
open Go.AB.Enc (cells)
variable {ρ : Option Nat}

section
variable {P : Program} {Q : Exit → St → Prop} {st : St}

/-- A nil slice in a slot gets a name: it may grow. -/
theorem aw_adopt {c : Code} (i : Nat) (e : TypeId) (sz : Nat) (h0 : st.at i = .list [] .nil) (hsz : 1 ≤ sz) (h : AW ρ P c Q { st with r := (i, .list [] (.tip st.nx)) :: st.r, G := setG st.G st.nx (.tip 0 e sz), nx := st.nx + 1 }) : AW ρ P c Q st := by
  intro E w a hs
  have hnx := hs.g.nx
  have hev := Ev.name hs.g (.slice none 0 0) (fun b o hb _ => by simp [blk] at hb)
  have hg := SimG.name hs.g (.slice none 0 0) (.tip 0 e sz) (fun b o hb _ => by simp [blk] at hb) (fun b hb => by simp [blk] at hb) ⟨.slice none 0 0, [], by simp [Env.name, hnx], World.ownsRow_nil _ _ _ _, fun b hb => by simp [blk] at hb, hsz⟩
  have hp := hs.at i
  rw [h0] at hp
  have hs2 := hs.evd hev hg
  refine cwp_mono (fun _ _ _ hq => lift_trans hev hq) (h _ w a ⟨hs.d.ev hev, hs.sz, fun j v hj => ?_, hg⟩)
  simp only [getA]
  cases hb : Nat.beq i j
  · exact hs2.t j v hj
  · have hij := Nat.eq_of_beq_eq_true hb
    subst hij
    have hv : a.tmps.getD i undef = v := by rw [Array.getD_eq_getD_getElem?, hj]; rfl
    rw [hv] at hp
    obtain ⟨as, cap, s, us, rfl, h1, h2, _, _, _, _, _, z1, _⟩ := hp.list_inv
    obtain ⟨rfl, rfl⟩ := z1 rfl
    exact R.mk_list (rows := []) (sz := 1) (us := []) (Nat.le_refl _) (Nat.zero_le _) (Nat.le_refl _) (by simp) (by simp) Rs.nil (.inl rfl) (by simp) (by simp) fun n hn => by
      simp only [Tok.tip.injEq] at hn
      subst hn
      refine ⟨by simp [Env.name]; omega, fun ver wv val ht => ?_⟩
      simp only [Env.name] at ht
      rw [if_pos (by omega)] at ht
      simp only [Option.some.injEq, Prod.mk.injEq] at ht
      obtain ⟨rfl, rfl, rfl⟩ := ht
      exact ⟨Nat.le_refl _, fun _ => rfl⟩

/-- .. in a variable's cell. -/
theorem aw_adopt_box {c : Code} (n off wv : Nat) (cs : List C) (e : TypeId) (sz : Nat) (hG : st.G n = some (.box wv cs)) (h0 : cs[off]? = some (.list [] .nil)) (hsz : 1 ≤ sz) (h : AW ρ P c Q { st with G := setG (setG st.G st.nx (.tip 0 e sz)) n (.box wv (cs.set off (.list [] (.tip st.nx)))), nx := st.nx + 1 }) : AW ρ P c Q st := by
  intro E w a hs
  have hnx := hs.g.nx
  have hev := Ev.name hs.g (.slice none 0 0) (fun b o hb _ => by simp [blk] at hb)
  have hg := SimG.name hs.g (.slice none 0 0) (.tip 0 e sz) (fun b o hb _ => by simp [blk] at hb) (fun b hb => by simp [blk] at hb) ⟨.slice none 0 0, [], by simp [Env.name, hnx], World.ownsRow_nil _ _ _ _, fun b hb => by simp [blk] at hb, hsz⟩
  obtain ⟨b, us, tt, hT, hh, hone, hr, hL⟩ := hs.g.obj n _ hG
  have hn := hs.g.lt n _ hT
  have hg2 : SimG (E.name (.slice none 0 0)) w (setG (setG st.G st.nx (.tip 0 e sz)) n (.box wv (cs.set off (.list [] (.tip st.nx))))) (st.nx + 1) := by
    refine ⟨hg.nx, fun k o ho => ?_, hg.lt, hg.tb, hg.ap, hg.fresh, hg.base⟩
    simp only [setG] at ho
    split at ho
    · rename_i ek
      subst ek
      simp only [Option.some.injEq] at ho
      subst ho
      have hr2 := hr.ev hev
      refine ⟨b, us, tt, by simp only [Env.name]; rw [if_neg (by omega)]; exact hT, hh, fun c hc => ?_, ⟨by rw [hr.1]; simp, fun j c v hc hv => ?_⟩, hL⟩
      · rcases List.mem_or_eq_of_mem_set hc with hc | rfl
        · exact hone c hc
        · rfl
      · rw [List.getElem?_set] at hc
        split at hc
        · rename_i ej
          subst ej
          split at hc
          · simp only [Option.some.injEq] at hc
            subst hc
            have hp := hr2.2 off _ v h0 hv
            obtain ⟨as, cap, s, us', rfl, h1, h2, _, _, _, _, _, z1, _⟩ := hp.list_inv
            obtain ⟨rfl, rfl⟩ := z1 rfl
            exact R.mk_list (rows := []) (sz := 1) (us := []) (Nat.le_refl _) (Nat.zero_le _) (Nat.le_refl _) (by simp) (by simp) Rs.nil (.inl rfl) (by simp) (by simp) fun n hn => by
              simp only [Tok.tip.injEq] at hn
              subst hn
              refine ⟨by simp [Env.name]; omega, fun ver wv val ht => ?_⟩
              simp only [Env.name] at ht
              rw [if_pos (by omega)] at ht
              simp only [Option.some.injEq, Prod.mk.injEq] at ht
              obtain ⟨rfl, rfl, rfl⟩ := ht
              exact ⟨Nat.le_refl _, fun _ => rfl⟩
          · cases hc
        · exact hr2.2 j c v hc hv
    · rename_i ek
      exact hg.obj k o ho
  exact cwp_mono (fun _ _ _ hq => lift_trans hev hq) (h _ w a ⟨hs.d.ev hev, hs.sz, fun j v hj => (hs.t j v hj).ev hev, hg2⟩)
end

theorem map_len {α : Type} [Enc α] (xs : List α) : ∀ r ∈ xs.map (cells (α := α)), r.length = Enc.n α := by
  intro r hr
  obtain ⟨x, _, rfl⟩ := List.mem_map.1 hr
  exact Enc.len x

section
variable {P : Program} {o : Oper} {st : St} {K : St → Prop}
/-- append of data. -/
theorem e_append {α : Type} [Enc α] {t e : TypeId} {bytes n : Nat} [AppT P t e (Enc.n α) bytes] {s x : Operand} {tk : Tok} {rows : List (List C)} {xs : List α} {m : Nat} (ys : List α) (ho : o.op = .call { callee := .builtin .append, args := #[s, x], argTypes := #[t, t] }) (hs : evC st s = .list (xs.map cells) (.tip n)) (hG : st.G n = some (.tip m e (Enc.n α))) (hm : m = xs.length) (hx : evC st x = .list rows tk) (hy : rows = ys.map cells) (hb : (xs.length + ys.length) * bytes ≤ 140737488355328)
    (h : K (St.put { st with G := setG st.G n (.tip (xs ++ ys).length e (Enc.n α)) } o.dst (.list ((xs ++ ys).map cells) (.tip n)))) (hmax : xs.length + ys.length ≤ 9223372036854775807) : EStep P o st K := by
  subst hy; subst hm
  refine e_append_tip (rows := xs.map cells) (ys := ys.map cells) (n := n) (tk := tk) ho hs (by rw [List.length_map]; exact hG) hx (map_len xs) (map_len ys) (by simpa using hb) (by simpa using hmax) ?_
  rw [← List.map_append]
  simpa [List.length_append] using h

/-- append to a slice without room, of data. -/
theorem e_append_data {α : Type} [Enc α] {t e : TypeId} {bytes : Nat} [AppT P t e (Enc.n α) bytes] {s x : Operand} {tok tk : Tok} {ys : List α} (ho : o.op = .call { callee := .builtin .append, args := #[s, x], argTypes := #[t, t] }) (hs : evC st s = .list [] tok) (htok : tok = .zero ∨ tok = .nil) (hx : evC st x = .list (ys.map cells) tk) (hsz1 : 1 ≤ Enc.n α) (hb : ys.length * bytes ≤ 140737488355328) (hm : ys.length ≤ 9223372036854775807)
    (h : K (st.put o.dst (lst ys))) : EStep P o st K :=
  e_append_copy ho hs htok hx hsz1 (map_len ys) (by simpa using hb) (by simpa using hm) h

theorem SStep.e' {D : Nat → Prop} {c : C} (h : SStep P D o st c) (hk : K (st.put o.dst c)) : EStep P o st K := h.e.mono fun _ e => e ▸ hk
end

/-- Two new variables, in either order. -/
theorem two_sim {E : Env} {w w2 : World} {st : St} {a : Act} (hs : Sim E w st a) {cs1 cs2 : List C} {us1 us2 : Array Value} {t1 t2 : TypeId} {b1 b2 d1 d2 : Nat}
    (h1 : Rs E w cs1 us1.toList) (h2 : Rs E w cs2 us2.toList) (o1 : ∀ c ∈ cs1, c.one = true) (o2 : ∀ c ∈ cs2, c.one = true) (hd : d1 ≠ d2)
    (hw : (w2 = (w.alloc (.cells us1 t1)).alloc (.cells us2 t2) ∧ b1 = w.heap.size ∧ b2 = w.heap.size + 1) ∨ (w2 = (w.alloc (.cells us2 t2)).alloc (.cells us1 t1) ∧ b1 = w.heap.size + 1 ∧ b2 = w.heap.size)) :
    ∃ E', Ev E w E' w2 ∧ Sim E' w2 { st with r := (d2, .box (st.nx + 1) 0 0) :: (d1, .box st.nx 0 0) :: st.r, G := setG (setG st.G st.nx (.box 0 cs1)) (st.nx + 1) (.box 0 cs2), nx := st.nx + 1 + 1 } ((a.put (some d1) (.pointer (some ⟨b1, 0, none⟩))).put (some d2) (.pointer (some ⟨b2, 0, none⟩))) := by
  -- both blocks are there, and nothing of them is laid
  obtain ⟨E2, hev2, hg2, hx1, hx2, hb1, hb2, hne, hl1, hl2, hT, hnx2⟩ : ∃ E2, Ev E w E2 w2 ∧ SimG E2 w2 st.G st.nx ∧ w2.heap[b1]? = some (.cells us1 t1 (0, 0)) ∧ w2.heap[b2]? = some (.cells us2 t2 (0, 0)) ∧ (w.heap.size ≤ b1 ∧ b1 < w2.heap.size) ∧ (w.heap.size ≤ b2 ∧ b2 < w2.heap.size) ∧ b1 ≠ b2 ∧ E2.L b1 = 0 ∧ E2.L b2 = 0 ∧ E2.T = E.T ∧ E2.nx = E.nx := by
    rcases hw with ⟨rfl, rfl, rfl⟩ | ⟨rfl, rfl, rfl⟩
    · have ha := Ev.laid hs.g (o := .cells us1 t1) 0 (.inl rfl)
      have ga := SimG.laid hs.g (o := .cells us1 t1) 0 (.inl rfl)
      have hb := Ev.laid ga (o := .cells us2 t2) 0 (.inl rfl)
      have gb := SimG.laid ga (o := .cells us2 t2) 0 (.inl rfl)
      refine ⟨_, ha.trans hb, gb, ?_, ?_, ⟨by omega, by simp; try omega⟩, ⟨by omega, by simp; try omega⟩, by omega, ?_, ?_, rfl, rfl⟩
      · rw [Below.heap_alloc _ _ _ (by simp)]; exact heap_new w _
      · have := heap_new (w.alloc (.cells us1 t1)) (.cells us2 t2); simpa using this
      · have := ga.fresh; simp [Env.lay]
      · simp [Env.lay]
    · have ha := Ev.laid hs.g (o := .cells us2 t2) 0 (.inl rfl)
      have ga := SimG.laid hs.g (o := .cells us2 t2) 0 (.inl rfl)
      have hb := Ev.laid ga (o := .cells us1 t1) 0 (.inl rfl)
      have gb := SimG.laid ga (o := .cells us1 t1) 0 (.inl rfl)
      refine ⟨_, ha.trans hb, gb, ?_, ?_, ⟨by omega, by simp; try omega⟩, ⟨by omega, by simp; try omega⟩, by omega, ?_, ?_, rfl, rfl⟩
      · have := heap_new (w.alloc (.cells us2 t2)) (.cells us1 t1); simpa using this
      · rw [Below.heap_alloc _ _ _ (by simp)]; exact heap_new w _
      · simp [Env.lay]
      · simp [Env.lay]
  have hnx := hg2.nx
  have hq1 : ∀ n t, E.T n = some t → blk t.2.2 ≠ some b1 := fun n t ht hb => by have := (hs.g.tb n t.1 t.2.1 t.2.2 _ ht hb).2; omega
  have hq2 : ∀ n t, E.T n = some t → blk t.2.2 ≠ some b2 := fun n t ht hb => by have := (hs.g.tb n t.1 t.2.1 t.2.2 _ ht hb).2; omega
  have hcl : ∀ (bb : Nat) us tt, w2.heap[bb]? = some (.cells us tt (0, 0)) → ∀ b o, blk (.pointer (some ⟨bb, 0, none⟩)) = some b → w2.heap[b]? = some o → o.isCells = true := fun bb us tt hx b o hb ho => by
    simp only [blk, Option.some.injEq] at hb
    subst hb
    rw [hx] at ho
    cases ho; rfl
  have hev3 := Ev.name hg2 (.pointer (some ⟨b1, 0, none⟩)) (hcl b1 us1 t1 hx1)
  have hg3 : SimG (E2.name (.pointer (some ⟨b1, 0, none⟩))) w2 (setG st.G st.nx (.box 0 cs1)) (st.nx + 1) := SimG.name hg2 (.pointer (some ⟨b1, 0, none⟩)) (.box 0 cs1) (hcl b1 us1 t1 hx1) (fun b hb => by
      simp only [blk, Option.some.injEq] at hb
      subst hb
      exact ⟨by rw [hev2.B]; have := hs.g.base; omega, hb1.2, fun n t ht => hq1 n t (hT ▸ ht)⟩) ⟨b1, us1, t1, by simp [Env.name, hnx], hx1, o1, h1.ev (hev2.trans hev3), hl1⟩
  have hnx3 := hg3.nx
  have hev4 := Ev.name hg3 (.pointer (some ⟨b2, 0, none⟩)) (hcl b2 us2 t2 hx2)
  have hg4 := SimG.name hg3 (.pointer (some ⟨b2, 0, none⟩)) (.box 0 cs2) (hcl b2 us2 t2 hx2) (fun b hb => by
      simp only [blk, Option.some.injEq] at hb
      subst hb
      refine ⟨by rw [show (E2.name (.pointer (some ⟨b1, 0, none⟩))).B = E2.B from rfl, hev2.B]; have := hs.g.base; omega, hb2.2, fun n t ht => ?_⟩
      simp only [Env.name] at ht
      split at ht
      · simp only [Option.some.injEq] at ht
        subst ht
        simp [blk, hne]
      · exact hq2 n t (hT ▸ ht)) ⟨b2, us2, t2, by simp [Env.name, hnx], hx2, o2, h2.ev ((hev2.trans hev3).trans hev4), hl2⟩
  refine ⟨_, (hev2.trans hev3).trans hev4, ?_⟩
  have hs4 := hs.evd ((hev2.trans hev3).trans hev4) hg4
  have e1 : ((E2.name (.pointer (some ⟨b1, 0, none⟩))).name (.pointer (some ⟨b2, 0, none⟩))).T st.nx = some (0, 0, .pointer (some ⟨b1, 0, none⟩)) := by simp [Env.name, hnx]
  have e2 : ((E2.name (.pointer (some ⟨b1, 0, none⟩))).name (.pointer (some ⟨b2, 0, none⟩))).T (st.nx + 1) = some (0, 0, .pointer (some ⟨b2, 0, none⟩)) := by simp [Env.name, hnx]
  have e3 : ((E2.name (.pointer (some ⟨b1, 0, none⟩))).name (.pointer (some ⟨b2, 0, none⟩))).nx = st.nx + 1 + 1 := by simp [Env.name, hnx]
  refine (hs4.put (some d1) (c := .box st.nx 0 0) (v := .pointer (some ⟨b1, 0, none⟩)) ?_).put (some d2) (c := .box (st.nx + 1) 0 0) ?_
  · refine .box (by omega) fun ver' wv val ht => ?_
    rw [e1] at ht
    simp only [Option.some.injEq, Prod.mk.injEq] at ht
    obtain ⟨rfl, rfl, rfl⟩ := ht
    exact ⟨Nat.le_refl _, fun _ => rfl⟩
  · refine .box (by omega) fun ver' wv val ht => ?_
    rw [e2] at ht
    simp only [Option.some.injEq, Prod.mk.injEq] at ht
    obtain ⟨rfl, rfl, rfl⟩ := ht
    exact ⟨Nat.le_refl _, fun _ => rfl⟩

section
variable {P : Program} {ol : List Oper} {K : St → Prop} {D : List Nat} {late Ef N : Nat → Bool} {i j : Nat} {π : List (Nat × Option Nat)} {o o' : Oper} {st : St}
theorem acan2_allocs {t1 t2 d1 d2 : Nat} {cs1 cs2 : List C} [ZeroC P t1 cs1] [ZeroC P t2 cs2] (hol : ol[i]? = some o) (hol' : ol[j]? = some o') (h1 : o.op = .alloc t1) (h2 : o'.op = .alloc t2) (hd1 : o.dst = some d1) (hd2 : o'.dst = some d2) (hg1 : o.guard = none) (hg2 : o'.guard = none) (hne : d1 ≠ d2)
    (hD : ∀ n ∈ D, (st.G n).isSome = true ∧ n ≠ st.nx ∧ n ≠ st.nx + 1)
    (h : ACan2 P ol.toArray K D late Ef N false π { st with r := (d2, .box (st.nx + 1) 0 0) :: (d1, .box st.nx 0 0) :: st.r, G := setG (setG st.G st.nx (.box 0 cs1)) (st.nx + 1) (.box 0 cs2), nx := st.nx + 1 + 1 }) : ACan2 P ol.toArray K D late Ef N false ((i, some j) :: π) st := by
  have ho : ol.toArray[i]? = some o := by simpa using hol
  have ho' : ol.toArray[j]? = some o' := by simpa using hol'
  intro E0 w0 Q hQ E1 w1 a hev hs hb
  obtain ⟨z1, r1, q1, q1'⟩ := ZeroC.run (P := P) (t := t1) E1 w1
  obtain ⟨z2, r2, q2, q2'⟩ := ZeroC.run (P := P) (t := t2) E1 w1
  have keep : ∀ (w : World) (ob : Obj), w1.heap.size ≤ w.heap.size → Keeps E0 (· ∈ D) w0 w → Keeps E0 (· ∈ D) w0 (w.alloc ob) := fun w ob hle hk => by
    refine ⟨fun b i hi => ?_, fun n hn ver wv val b ht hb2 => ?_⟩
    · have hlt : b < w1.heap.size := by
        rcases Nat.lt_or_ge b w1.heap.size with h | h
        · exact h
        · have := hs.g.fresh b h
          have := hev.L b
          omega
      exact (World.cell?_of_block (w := w) (Below.heap_alloc w ob b (by omega))).trans (hk.1 b i hi)
    · have := hb rfl n hn
      have hlt := (hs.g.tb n ver wv val b (this.trans ht) hb2).2
      exact (Below.heap_alloc w ob b (by omega)).trans (hk.2 n hn ver wv val b ht hb2)
  have hrun1 : ∀ (ac : Act) (w : World), (execOp ac.eval o).run P w = .ok (.value (.pointer (some ⟨w.heap.size, 0, none⟩))) (w.alloc (.cells z1.cells t1)) := fun ac w => by
    simp [execOp, h1, Instr.alloc, r1, newVar, newRow, newObj, Sem.run]
  have hrun2 : ∀ (ac : Act) (w : World), (execOp ac.eval o').run P w = .ok (.value (.pointer (some ⟨w.heap.size, 0, none⟩))) (w.alloc (.cells z2.cells t2)) := fun ac w => by
    simp [execOp, h2, Instr.alloc, r2, newVar, newRow, newObj, Sem.run]
  have op1 : ∀ (ac : Act) (w : World) (Kr : Act → World → Prop), Kr (ac.put (some d1) (.pointer (some ⟨w.heap.size, 0, none⟩))) (w.alloc (.cells z1.cells t1)) → wpOp P ol.toArray (OnlyN Q) i Kr ac w := fun ac w Kr hk => by
    unfold wpOp
    simp only [ho]
    rw [if_pos (by simp [Region.wanted, hg1])]
    refine .inl ?_
    unfold Oper.wp
    rw [hrun1]
    simpa [Oper.upon, hd1] using hk
  have op2 : ∀ (ac : Act) (w : World) (Kr : Act → World → Prop), Kr (ac.put (some d2) (.pointer (some ⟨w.heap.size, 0, none⟩))) (w.alloc (.cells z2.cells t2)) → wpOp P ol.toArray (OnlyN Q) j Kr ac w := fun ac w Kr hk => by
    unfold wpOp
    simp only [ho']
    rw [if_pos (by simp [Region.wanted, hg2])]
    refine .inl ?_
    unfold Oper.wp
    rw [hrun2]
    simpa [Oper.upon, hd2] using hk
  have fin : ∀ w2 a2, (∃ E', Ev E1 w1 E' w2 ∧ Sim E' w2 { st with r := (d2, .box (st.nx + 1) 0 0) :: (d1, .box st.nx 0 0) :: st.r, G := setG (setG st.G st.nx (.box 0 cs1)) (st.nx + 1) (.box 0 cs2), nx := st.nx + 1 + 1 } a2) → wpCan P ol.toArray (OnlyN Q) (Keeps E0 (· ∈ D) w0) late Ef N π a2 w2 := fun w2 a2 hE => by
    obtain ⟨E', hev', hs'⟩ := hE
    refine h E0 w0 Q hQ E' w2 a2 (hev.trans hev') hs' fun _ n hn => ?_
    obtain ⟨k1, k2, k3⟩ := hD n hn
    obtain ⟨ob, hob⟩ := Option.isSome_iff_exists.1 k1
    have hsame := keeps_step (D := [n]) (st := st) (a := a) hs hev' hs' (fun m hm => by
      simp only [List.mem_cons, List.not_mem_nil, or_false] at hm
      subst hm
      exact ⟨ob, ob, hob, by simp [setG, k2, k3, hob], rfl⟩) n (by simp)
    exact hsame.1.trans (hb rfl n hn)
  refine ⟨op1 a w1 _ ⟨keep w1 _ (Nat.le_refl _), op2 _ _ _ ⟨keep _ _ (by simp), fin _ _ ?_⟩⟩, op2 a w1 _ ⟨keep w1 _ (Nat.le_refl _), op1 _ _ _ ⟨keep _ _ (by simp), fin _ _ ?_⟩⟩⟩
  · have := two_sim (w2 := (w1.alloc (.cells z1.cells t1)).alloc (.cells z2.cells t2)) (b1 := w1.heap.size) (b2 := w1.heap.size + 1) (d1 := d1) (d2 := d2) hs q1 q2 q1' q2' hne (.inl ⟨rfl, rfl, rfl⟩)
    simpa using this
  · have := two_sim (w2 := (w1.alloc (.cells z2.cells t2)).alloc (.cells z1.cells t1)) (b1 := w1.heap.size + 1) (b2 := w1.heap.size) (d1 := d1) (d2 := d2) hs q1 q2 q1' q2' hne (.inr ⟨rfl, rfl, rfl⟩)
    have hcomm : (a.put (some d2) (.pointer (some ⟨w1.heap.size, 0, none⟩))).put (some d1) (.pointer (some ⟨w1.heap.size + 1, 0, none⟩)) = (a.put (some d1) (.pointer (some ⟨w1.heap.size + 1, 0, none⟩))).put (some d2) (.pointer (some ⟨w1.heap.size, 0, none⟩)) := by
      simp only [Act.put]
      rw [Array.setIfInBounds_comm _ _ (fun e => hne e.symm)]
    simp only [World.size_alloc]
    rw [hcomm]
    exact this
end

/-! ### Small things for walks -/
theorem setG_same (G : Nat → Option GObj) (n : Nat) (o : GObj) : setG G n o n = some o := by simp [setG]
theorem setG_other {G : Nat → Option GObj} {n m : Nat} {o : GObj} (h : m ≠ n) : setG G n o m = G m := by simp [setG, h]
def delG (G : Nat → Option GObj) (n : Nat) : Nat → Option GObj := fun k => if k = n then none else G k
theorem delG_other {G : Nat → Option GObj} {n m : Nat} (h : m ≠ n) : delG G n m = G m := by simp [delG, h]
theorem aw_commitD {P : Program} {Q : Exit → St → Prop} {st : St} {c : Code} {i n wv : Nat} {cs : List C} (h0 : st.at i = .box n 0 0) (hG : st.G n = some (.box wv cs)) (hne : cs ≠ []) (h : AW ρ P c Q { st with r := (i, .elem cs) :: st.r, G := delG st.G n }) : AW ρ P c Q st :=
  aw_commit h0 hG hne h
theorem subG_set {g H : Nat → Option GObj} {k : Nat} {ob : GObj} (h1 : H k = some ob) (h2 : ∀ n o, g n = some o → H n = some o) : ∀ n o, setG g k ob n = some o → H n = some o := by
  intro n o h
  simp only [setG] at h
  split at h
  · rename_i e; subst e; rw [h1]; exact h
  · exact h2 n o h
theorem lowG_set {g B : Nat → Option GObj} {k m : Nat} {ob : GObj} (h1 : ∀ n o, g n = some o → B n = some o ∨ (n < m ∧ o.low m)) (hk : k < m) (ho : ob.low m) : ∀ n o, setG g k ob n = some o → B n = some o ∨ (n < m ∧ o.low m) := by
  intro n o h
  simp only [setG] at h
  split at h
  · rename_i e; subst e; simp only [Option.some.injEq] at h; subst h; exact .inr ⟨hk, ho⟩
  · exact h1 n o h
theorem lowG_base {g B : Nat → Option GObj} {m : Nat} (h : ∀ n o, g n = some o → B n = some o) : ∀ n o, g n = some o → B n = some o ∨ (n < m ∧ o.low m) := fun n o ho => .inl (h n o ho)
theorem low_nil {m : Nat} : ∀ c ∈ ([] : List C), C.low m c := by simp
theorem low_cons {m : Nat} {d : C} {ds : List C} (h : d.low m) (k : ∀ c ∈ ds, C.low m c) : ∀ c ∈ d :: ds, C.low m c := by
  intro c hc
  rcases List.mem_cons.1 hc with rfl | hc
  · exact h
  · exact k c hc
theorem nil_low {m : Nat} : (C.list [] .nil).low m := .list (by simp) (by simp)
theorem take_snoc {α : Type} {l : List α} {k : Nat} {x : α} (hx : l[k]? = some x) : l.take k ++ [x] = l.take (k + 1) := by rw [List.take_add_one, hx]; rfl
theorem aw_forget {P : Program} {Q : Exit → St → Prop} {st : St} {c : Code} (G : Nat → Option GObj) (hs : ∀ n o, G n = some o → st.G n = some o) (h : AW ρ P c Q { st with G := G }) : AW ρ P c Q st := aw_le (le_G hs) h
theorem aw_lt {P : Program} {Q : Exit → St → Prop} {st : St} {c : Code} (h : (∀ n o, st.G n = some o → n < st.nx) → AW ρ P c Q st) : AW ρ P c Q st :=
  fun E w a hs => h (fun n o ho => (hs.lowG n o ho).1) E w a hs
theorem data_low {α : Type} [Enc α] {m n : Nat} (xs : List α) (h : n < m) : (C.list (xs.map cells) (.tip n)).low m :=
  .list (fun r hr c hc => by obtain ⟨x, _, rfl⟩ := List.mem_map.1 hr; exact Enc.low m x c hc) (fun k hk => by simp only [Tok.tip.injEq] at hk; omega)
theorem cells_low {α : Type} [Enc α] (m : Nat) (x : α) : (C.elem (cells x)).low m := .elem fun c hc => Enc.low m x c hc
theorem val_low {α : Type} [Enc α] (m : Nat) (x : α) : (C.agg (cells x)).low m := .agg fun c hc => Enc.low m x c hc
section
variable {P : Program} {o : Oper} {st : St} {K : St → Prop}
theorem e_allocC {e : TypeId} {cs : List C} [ZeroC P e cs] (ho : o.op = .alloc e) (h : K (St.put { st with G := setG st.G st.nx (.box 0 cs), nx := st.nx + 1 } o.dst (.box st.nx 0 0))) : EStep P o st K :=
  estep_run fun E w a hs => by
    obtain ⟨v, r1, hr, h1⟩ := ZeroC.run (P := P) (t := e) E w
    obtain ⟨E', h2, h3, h4⟩ := name_box hs e hr h1
    exact ⟨.pointer (some ⟨w.heap.size, 0, none⟩), w.alloc (.cells v.cells e), E', _, _, _, by simp [execOp, ho, Instr.alloc, r1, newVar, newRow, newObj, Sem.run], h2, h3, h4, h⟩
/-- A whole variable is written. -/
theorem e_store_all {t : TypeId} {ag : Bool} {sz : Nat} [Ty P t ag sz] {x y : Operand} {n wv : Nat} {cs new : List C} (ho : o.op = .store t x y) (hd : o.dst = none) (hx : evC st x = .box n 0 0) (hG : st.G n = some (.box wv cs)) (hy : cellsC (evC st y) = some new) (hsz : new.length = sz) (hb : cs.length = sz)
    (h : K { st with G := setG st.G n (.box (wv + 1) new) }) : EStep P o st K := by
  refine e_store (t := t) ho hd hx hG hy hsz (by omega) ?_
  rw [putAt_eq cs 0 new (by omega), List.take_zero, List.nil_append, Nat.zero_add, List.drop_eq_nil_of_le (by omega), List.append_nil]
  exact h
/-- One cell is written. -/
theorem e_store_1 {t : TypeId} [Ty P t false 1] {x y : Operand} {n off wv : Nat} {cs : List C} {c : C} (ho : o.op = .store t x y) (hd : o.dst = none) (hx : evC st x = .box n 0 off) (hG : st.G n = some (.box wv cs)) (hy : cellsC (evC st y) = some [c]) (hb : off < cs.length)
    (h : K { st with G := setG st.G n (.box (wv + 1) (cs.set off c)) }) : EStep P o st K :=
  e_store (t := t) (sz := 1) ho hd hx hG hy rfl (by omega) h
end
end Go.AB
