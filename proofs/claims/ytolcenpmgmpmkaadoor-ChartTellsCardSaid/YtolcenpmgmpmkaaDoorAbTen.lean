/-
  Slices that are built and grow.
-/
import Derived.Test.YtolcenpmgmpmkaaDoorAbNine
namespace Go.AB
open Go Go.RowKit
open Go.AB.Enc (cells)

section
variable {P : Program} (w : World)
theorem run_append_zero0 (t ty e : TypeId) (i : TypeInfo) (ht : P.underlying t = some (.slice e)) (hi : P.info? e = some i) (a ao : Option Addr) (n cap c : Nat) (hn : n ≤ cap) :
    (Builtin.append_ #[t, t] ty #[.slice a n cap, .slice ao 0 c]).run P w = .ok (.slice a n cap) w := by
  cases a <;> cases ao <;> simp [Builtin.append_, run_underlying ht, sizeOf, typeInfo, hi, Builtin.lenOf, Builtin.firstCells, hn, loadCells, loadCellsFrom, storeCells]

/-- append: what is owned behind it, what was written, and where the row lies. -/
theorem run_append_at (base : Nat) (t ty e : TypeId) (i : TypeInfo) (z : Value) (ht : P.underlying t = some (.slice e)) (hi : P.info? e = some i) (hz : i.zero = some z) (hzs : z.cells.size = i.size)
    (v : Value) (n : Nat) (xs : List Value) (hown : w.ownsRow base e i.size v n xs)
    (ao : Option Addr) (m c : Nat) (news : List Value) (hl : news.length = m * i.size) (hnews : m = 0 ∨ ∃ a, ao = some a ∧ ∀ j u, news[j]? = some u → w.cell? (a.add j) = some u) (h1 : ∀ u ∈ news, u.oneCell' = true)
    (h63 : n + m ≤ maxLen) (hbytes : (n + m) * i.bytes ≤ 140737488355328) (hbase : base ≤ w.heap.size) :
    ∃ v' w', (Builtin.append_ #[t, t] ty #[v, .slice ao m c]).run P w = .ok v' w' ∧ w'.ownsRow base e i.size v' (n + m) (xs ++ news) ∧
      ((blk v' = blk v ∧ w.grownBy w' (blk v)) ∨ (blk v' = some w.heap.size ∧ w.grownBy w' none)) ∧ (m ≠ 0 → ∃ g cap, v' = .slice (some ⟨g, 0, none⟩) (n + m) cap) ∧ (m = 0 → v' = v) := by
  by_cases hm : m = 0
  · subst hm
    have hn : news = [] := List.eq_nil_of_length_eq_zero (by simpa using hl)
    subst hn
    refine ⟨v, w, ?_, by simpa using hown, .inl ⟨rfl, ⟨rfl, rfl, rfl, Nat.le_refl _, fun _ _ _ => rfl⟩⟩, fun h => (h rfl).elim, fun _ => rfl⟩
    rcases hown.2 with ⟨rfl, rfl⟩ | ⟨g, cap, cur, rfl, _, _, hnc, _⟩
    · exact run_append_zero0 w t ty e i ht hi _ _ _ _ _ (Nat.le_refl _)
    · exact run_append_zero0 w t ty e i ht hi _ _ _ _ _ hnc
  · obtain ⟨a, rfl, hcells⟩ := hnews.resolve_left hm
    have hsmall : n + m ≤ 9223372036854775807 := by simp only [maxLen] at h63; omega
    have hlen : (xs ++ news).length = (n + m) * i.size := by rw [List.length_append, hown.1, hl, Nat.add_mul]
    have grown : ∀ (old : Nat),
        (w.drew.alloc (.cells (xs.toArray ++ news.toArray ++ Builtin.zeroCells z.cells (grownCap w (n + m) old e - (n + m))) e)).ownsRow base e i.size
          (.slice (some ⟨w.heap.size, 0, none⟩) (n + m) (grownCap w (n + m) old e)) (n + m) (xs ++ news) ∧
        w.grownBy (w.drew.alloc (.cells (xs.toArray ++ news.toArray ++ Builtin.zeroCells z.cells (grownCap w (n + m) old e - (n + m))) e)) none := by
      intro old
      have hge := grownCap_ge w (n + m) old e
      have hcm : grownCap w (n + m) old e ≤ maxLen := grownCap_le_maxLen w (n + m) old e h63
      refine ⟨⟨hlen, .inr ⟨w.heap.size, _, _, rfl, hbase, heap_alloc_new w.drew _, hge, hcm, ?_, ?_⟩⟩, ⟨rfl, rfl, rfl, by simp, fun k hk _ => Below.heap_alloc w.drew _ k hk⟩⟩
      · simp only [Array.size_append, List.size_toArray, size_zeroCells, hzs, hown.1, hl, ← Nat.add_mul]
        congr 1
        omega
      · simp only [Array.toList_append, List.append_assoc]
        rw [← List.append_assoc, ← hlen]
        exact List.take_left
    rcases hown.2 with ⟨rfl, rfl⟩ | ⟨g, cap, cur, rfl, hbg, hg, hnc, hcm, hcs, htake⟩
    · have hx : xs = [] := List.eq_nil_of_length_eq_zero (by simpa using hown.1)
      subst hx
      have hr := run_append_nil (P := P) w t ty e i z ht hi hz a m c news hl hcells (by omega) (by omega) (by have hb := hbytes; simp only [Nat.zero_add] at hb; omega)
      have hgr := grown 0
      simp only [Nat.zero_add, List.nil_append, Array.empty_append] at hgr ⊢
      exact ⟨_, _, hr, hgr.1, .inr ⟨rfl, hgr.2⟩, fun _ => ⟨_, _, rfl⟩, fun h => (hm h).elim⟩
    · by_cases hroom : n + m ≤ cap
      · have hfit : n * i.size + news.length ≤ cur.size := by rw [hl, hcs, ← Nat.add_mul]; exact Nat.mul_le_mul_right _ hroom
        have hr := run_append_room (P := P) w t ty e i ht hi g n cap cur hg a m c news hl hcells h1 hroom hfit
        refine ⟨_, _, hr, ⟨hlen, .inr ⟨g, cap, _, rfl, hbg, setRow_heap w g cur _ e _ hg, hroom, hcm, ?_, ?_⟩⟩, .inl ⟨rfl, ⟨rfl, rfl, rfl, by simp, fun k _ hk => setRow_other w g k _ (fun e => hk (by simp [blk, e]))⟩⟩, fun _ => ⟨_, _, rfl⟩, fun h => (hm h).elim⟩
        · simp only [List.size_toArray, List.length_append, List.length_take, List.length_drop, Array.length_toList]
          omega
        · rw [htake, ← hlen]
          exact List.take_left
      · have holds : ∀ j u, xs[j]? = some u → w.cell? ((⟨g, 0, none⟩ : Addr).add j) = some u := hown.cells (g := g) rfl
        have hr := run_append_grow (P := P) w t ty e i z ht hi hz ⟨g, 0, none⟩ n cap xs hown.1 holds a m c news hl hcells (by omega) (by omega) (growslice_fits (by omega) hbytes)
        have hgr := grown cap
        exact ⟨_, _, hr, hgr.1, .inr ⟨rfl, hgr.2⟩, fun _ => ⟨_, _, rfl⟩, fun h => (hm h).elim⟩
end

/-- What a slice that is only read holds, as values. -/
theorem R.list_inv {E : Env} {w : World} {rows : List (List C)} {tok : Tok} {v : Value} (h : R E w (.list rows tok) v) : ∃ (a : Option Addr) (cap sz : Nat) (us : List Value), v = .slice a rows.length cap ∧ rows.length ≤ cap ∧ cap ≤ maxLen ∧ 1 ≤ sz ∧ (∀ r ∈ rows, r.length = sz) ∧ (∀ r ∈ rows, ∀ c ∈ r, c.one = true) ∧
    Rs E w rows.flatten us ∧ (rows = [] ∨ ∃ b off, a = some ⟨b, off, none⟩ ∧ off + us.length ≤ E.L b ∧ ∀ j u, us[j]? = some u → w.cell? ⟨b, off + j, none⟩ = some u) ∧ (tok = .nil → a = none ∧ cap = 0) ∧ (tok = .zero → cap = 0) ∧
    (∀ n, tok = .tip n → n < E.nx ∧ ∀ ver wv val, E.T n = some (ver, wv, val) → rows.length ≤ ver ∧ (rows.length = ver → val = .slice a rows.length cap)) := by
  cases h with
  | @list _ _ a cap sz us h1 h2 h3 h4 h5 h6 h7 z1 z2 h8 =>
    have hl := flat_len h4
    refine ⟨a, cap, sz, (List.range rows.flatten.length).map us, rfl, h1, h2, h3, h4, h5, ⟨by simp, fun j c v hc hv => ?_⟩, ?_, z1, z2, h8⟩
    · have hlt := (List.getElem?_eq_some_iff.1 hc).1
      rw [List.getElem?_map, List.getElem?_range hlt] at hv
      simp only [Option.map_some, Option.some.injEq] at hv
      exact hv ▸ h7 j c hc
    · rcases h6 with h6 | ⟨b, off, e, h6, h9⟩
      · rw [hl] at h6
        rcases Nat.mul_eq_zero.1 h6 with h6 | h6
        · exact .inl (List.eq_nil_of_length_eq_zero h6)
        · omega
      · refine .inr ⟨b, off, e, by simpa using h6, fun j u hu => ?_⟩
        have hlt : j < rows.flatten.length := by simpa using (List.getElem?_eq_some_iff.1 hu).1
        rw [List.getElem?_map, List.getElem?_range hlt] at hu
        simp only [Option.map_some, Option.some.injEq] at hu
        exact hu ▸ h9 j hlt

/-- A list out of its values. -/
theorem R.mk_list {E : Env} {w : World} {rows : List (List C)} {a : Option Addr} {cap sz : Nat} {us : List Value} (h1 : rows.length ≤ cap) (h2 : cap ≤ maxLen) (h3 : 1 ≤ sz) (h4 : ∀ r ∈ rows, r.length = sz) (h5 : ∀ r ∈ rows, ∀ c ∈ r, c.one = true) (h7 : Rs E w rows.flatten us)
    (h6 : rows = [] ∨ ∃ b off, a = some ⟨b, off, none⟩ ∧ off + us.length ≤ E.L b ∧ ∀ j u, us[j]? = some u → w.cell? ⟨b, off + j, none⟩ = some u) {tok : Tok} (z1 : tok = .nil → a = none ∧ cap = 0) (z2 : tok = .zero → cap = 0)
    (h8 : ∀ n, tok = .tip n → n < E.nx ∧ ∀ ver wv val, E.T n = some (ver, wv, val) → rows.length ≤ ver ∧ (rows.length = ver → val = .slice a rows.length cap)) : R E w (.list rows tok) (.slice a rows.length cap) := by
  refine .list (us := fun j => us.getD j Go.undef) h1 h2 h3 h4 h5 ?_ h7.us.1 z1 z2 h8
  rcases h6 with rfl | ⟨b, off, e, h6, h9⟩
  · exact .inl rfl
  · refine .inr ⟨b, off, e, by rw [← h7.1]; exact h6, fun j hj => h9 j _ (h7.us.2 j hj)⟩

section
variable {P : Program} {o : Oper} {st : St} {K : St → Prop}

def rowsC : List (Nat × C) → Option (List (List C))
  | [] => some []
  | (_, c) :: r => match cellsC c, rowsC r with
    | some cs, some rs => some (cs :: rs)
    | _, _ => none

theorem rowsC_spec {E : Env} {w : World} : ∀ (ps : List (Nat × C)) (vs : List Value) (rows : List (List C)), vs.length = ps.length → (∀ (j i : Nat) (c : C), ps[j]? = some (i, c) → ∃ v, vs[j]? = some v ∧ R E w c v) → rowsC ps = some rows →
    rows.length = ps.length ∧ Rs E w rows.flatten (vs.flatMap fun v => v.cells.toList) ∧ (∀ r ∈ rows, ∀ c ∈ r, c.one = true) ∧ ∀ (j : Nat) r v, rows[j]? = some r → vs[j]? = some v → r.length = v.cells.size
  | [], vs, rows, hl, _, hr => by
    have : vs = [] := List.eq_nil_of_length_eq_zero (by simpa using hl)
    subst this
    simp only [rowsC, Option.some.injEq] at hr
    subst hr
    exact ⟨rfl, Rs.nil, by simp, by simp⟩
  | (i, c) :: ps, vs, rows, hl, hv, hr => by
    obtain ⟨v, hv0, hrc⟩ := hv 0 i c rfl
    cases vs with
    | nil => simp at hl
    | cons v0 vs =>
      simp only [List.getElem?_cons_zero, Option.some.injEq] at hv0
      subst hv0
      simp only [rowsC] at hr
      split at hr
      · rename_i cs rs e1 e2
        simp only [Option.some.injEq] at hr
        subst hr
        obtain ⟨q1, q2⟩ := hrc.cells e1
        obtain ⟨r1, r2, r3, r4⟩ := rowsC_spec ps vs rs (by simpa using hl) (fun j i c hj => by simpa using hv (j + 1) i c (by simpa using hj)) e2
        refine ⟨by simp [r1], by simpa using q1.append r2, fun r hr c hc => ?_, fun j r v h1 h2 => ?_⟩
        · rcases List.mem_cons.1 hr with rfl | hr
          · exact q2 c hc
          · exact r3 r hr c hc
        · cases j with
          | zero => simp at h1 h2; subst h1; subst h2; have := q1.1; simpa using this.symm
          | succ j => simp at h1 h2; exact r4 j r v h1 h2
      · cases hr

theorem AppT.elt {t e : TypeId} {sz bytes : Nat} (h : AppT P t e sz bytes) : P.underlying t = some (.slice e) := (AppT.spec (h := h)).1

/-- A slice literal, laid for good. -/
theorem e_buildSlice {t e : TypeId} {sz bytes n : Nat} [AppT P t e sz bytes] {parts : List (Nat × Operand)} {rows : List (List C)} (ho : o.op = .buildSlice t n parts.toArray) (hi : parts.map (·.1) = List.range n) (hr : rowsC (parts.map fun p => (p.1, evC st p.2)) = some rows) (hn : n ≠ 0) (hs : 1 ≤ sz) (hsz : ∀ r ∈ rows, r.length = sz) (h24 : n * sz ≤ 16777216)
    (h : K (st.put o.dst (.list rows .none))) : EStep P o st K :=
  estep_run fun E w a hsim => by
    obtain ⟨ht, i, z, hie, hz, h1, h2, h3⟩ := AppT.spec (P := P) (t := t) (e := e) (sz := sz) (bytes := bytes)
    have hpl : parts.length = n := by have := congrArg List.length hi; simpa using this
    obtain ⟨r1, r2, r3, r4⟩ := rowsC_spec (E := E) (w := w) (parts.map fun p => (p.1, evC st p.2)) (parts.map fun p => a.eval p.2) rows (by simp) (fun j i c hj => by
      rw [List.getElem?_map] at hj ⊢
      cases hp : parts[j]? with
      | none => rw [hp] at hj; cases hj
      | some p =>
        rw [hp] at hj
        simp only [Option.map_some, Option.some.injEq, Prod.mk.injEq] at hj
        obtain ⟨rfl, rfl⟩ := hj
        exact ⟨a.eval p.2, rfl, hsim.ev p.2⟩) hr
    simp only [List.length_map] at r1
    have hcs : ∀ v ∈ parts.map (fun p => a.eval p.2), v.cells.size = sz := fun v hv => by
      obtain ⟨j, hj⟩ := List.getElem?_of_mem hv
      have hlt : j < rows.length := by rw [r1]; simpa using (List.getElem?_eq_some_iff.1 hj).1
      rw [← r4 j _ v (List.getElem?_eq_getElem hlt) hj]
      exact hsz _ (List.getElem_mem hlt)
    have hpos : 0 < n * sz := Nat.mul_pos (by omega) (by omega)
    have hfill := Great.fill_whole (s := sz) (by omega) (parts.map fun p => a.eval p.2) ((Array.range (n * i.size)).map (z.cells[· % z.cells.size]!)) hcs (by simp [hpl, h1])
    have hparts : (((parts.map fun p => a.eval p.2).zipIdx 0).map fun x => (x.2, x.1)) = parts.map fun p => (p.1, a.eval p.2) := by
      apply List.ext_getElem?
      intro j
      simp only [List.getElem?_map, List.getElem?_zipIdx]
      cases hp : parts[j]? with
      | none => rfl
      | some p =>
        have h1 : (parts.map (·.1))[j]? = some p.1 := by rw [List.getElem?_map, hp]; rfl
        rw [hi] at h1
        have h2 : (List.range n)[j]? = some j := List.getElem?_range (by rw [← hpl]; exact (List.getElem?_eq_some_iff.1 hp).1)
        rw [h2] at h1
        simp only [Option.some.injEq] at h1
        simp [h1]
    rw [hparts, ← h1] at hfill
    have hrun := run_buildSlice (P := P) w t e n (parts.map fun p => (p.1, a.eval p.2)).toArray _ i z ht hie hz (by rw [h1]; omega) (by rw [h1]; omega) (by simpa using hfill)
    have hx0 : n * sz = 0 ∨ ∃ v, (w.alloc (.cells ((parts.map fun p => a.eval p.2).flatMap fun v => v.cells.toList).toArray e)).cell? ⟨w.heap.size, 0, none⟩ = some v := by
      rcases alloc_cell0 w ((parts.map fun p => a.eval p.2).flatMap fun v => v.cells.toList).toArray e with h0 | h0
      · left
        have q1 := r2.1
        have q2 := flat_len hsz
        simp only [List.size_toArray] at h0
        have q3 : rows.length = n := by omega
        rw [q3] at q2
        omega
      · exact .inr h0
    have hev := Ev.laid hsim.g (o := .cells ((parts.map fun p => a.eval p.2).flatMap fun v => v.cells.toList).toArray e) (n * sz) (.inl rfl) hx0
    refine ⟨.slice (some ⟨w.heap.size, 0, none⟩) n n, w.alloc (.cells ((parts.map fun p => a.eval p.2).flatMap fun v => v.cells.toList).toArray e), _, st.G, st.nx, .list rows .none, ?_, hev, ?_, SimG.laid hsim.g (n * sz) (.inl rfl) hx0, h⟩
    · simp only [execOp, ho, Sem.run_bind, List.map_toArray]
      rw [hrun]; rfl
    · have hrl : rows.length = n := by omega
      have hfl := flat_len hsz
      have hul := r2.1
      have := R.mk_list (a := some ⟨w.heap.size, 0, none⟩) (cap := n) (tok := .none) (by omega) (by unfold maxLen; have := Nat.le_mul_of_pos_right n (show 0 < sz by omega); omega) hs hsz r3 (r2.ev hev) (.inr ⟨w.heap.size, 0, rfl, by simp only [Env.lay, if_true]; rw [hul, hfl, hrl]; omega, fun j u hu => by
        rw [Nat.zero_add]
        exact cell_of_heap (heap_new w _) (by simpa using hu)⟩) (by simp) (by simp) (by simp)
      rw [hrl] at this
      exact this
/-- An empty slice literal. -/
theorem e_buildSlice0 {t e : TypeId} {sz bytes : Nat} [AppT P t e sz bytes] (ho : o.op = .buildSlice t 0 #[]) (h : K (st.put o.dst (.list [] .zero))) : EStep P o st K :=
  estep_run fun E w a hsim => by
    obtain ⟨ht, i, z, hie, hz, h1, h2, h3⟩ := AppT.spec (P := P) (t := t) (e := e) (sz := sz) (bytes := bytes)
    have hev := Ev.laid hsim.g (o := .cells #[] e) 0 (.inl rfl)
    refine ⟨.slice (some ⟨w.heap.size, 0, none⟩) 0 0, w.alloc (.cells #[] e), _, st.G, st.nx, .list [] .zero, ?_, hev, ?_, SimG.laid hsim.g 0 (.inl rfl), h⟩
    · simp [execOp, ho, Instr.buildSlice, run_underlying ht, sizeOf, typeInfo, hie, Instr.fill, newRow, newObj, Sem.run, show (Array.map (fun _ => (default : Value)) (Array.range 0)) = #[] from by simp]
    · exact R.mk_list (rows := []) (a := some ⟨w.heap.size, 0, none⟩) (cap := 0) (sz := 1) (us := []) (Nat.le_refl _) (Nat.zero_le _) (Nat.le_refl _) (by simp) (by simp) Rs.nil (.inl rfl) (by simp) (by simp) (by simp)

/-- What an append has to know of the appended. -/
theorem app_src {E : Env} {w : World} {ys : List (List C)} {tk : Tok} {v : Value} (h : R E w (.list ys tk) v) {sz : Nat} (hsz : ∀ r ∈ ys, r.length = sz) : ∃ ao c news, v = .slice ao ys.length c ∧ news.length = ys.length * sz ∧ (ys.length = 0 ∨ ∃ a, ao = some a ∧ ∀ (j : Nat) u, news[j]? = some u → w.cell? (a.add j) = some u) ∧ Rs E w ys.flatten news ∧ (∀ r ∈ ys, ∀ c ∈ r, c.one = true) ∧ ∀ u ∈ news, u.oneCell' = true := by
  obtain ⟨ao, c, s, us, rfl, _, _, _, h4, h5, h6, h7, _⟩ := h.list_inv
  refine ⟨ao, c, us, rfl, by rw [h6.1]; exact flat_len hsz, ?_, h6, h5, h6.oneCell fun c hc => ?_⟩
  · rcases h7 with rfl | ⟨b, off, e, _, h8⟩
    · exact .inl rfl
    · exact .inr ⟨_, e, fun j u hu => by rw [addr_add]; exact h8 j u hu⟩
  · obtain ⟨r, hr, hc⟩ := List.mem_flatten.1 hc
    exact h5 r hr c hc

/-- append to a slice without room: a copy. -/
theorem e_append_copy {t e : TypeId} {sz bytes : Nat} [AppT P t e sz bytes] {s x : Operand} {tok tk : Tok} {ys : List (List C)} (ho : o.op = .call { callee := .builtin .append, args := #[s, x], argTypes := #[t, t] }) (hs : evC st s = .list [] tok) (htok : tok = .zero ∨ tok = .nil) (hx : evC st x = .list ys tk) (hsz1 : 1 ≤ sz) (hsz : ∀ r ∈ ys, r.length = sz) (hb : ys.length * bytes ≤ 140737488355328) (hm : ys.length ≤ 9223372036854775807)
    (h : K (st.put o.dst (.list ys .none))) : EStep P o st K :=
  estep_run fun E w a hsim => by
    obtain ⟨ht, i, z, hie, hz, h1, h2, h3⟩ := AppT.spec (P := P) (t := t) (e := e) (sz := sz) (bytes := bytes)
    obtain ⟨as, cap, _, _, e1, _, _, _, _, _, _, _, z1, z2, _⟩ := (hs ▸ hsim.ev s).list_inv
    have hcap : cap = 0 := by
      rcases htok with h | h
      · exact z2 h
      · exact (z1 h).2
    subst hcap
    obtain ⟨ao, c, news, e2, hl, hnews, hr, hone, h1c⟩ := app_src (hx ▸ hsim.ev x) hsz
    subst h1; subst h2
    by_cases hy : ys.length = 0
    · have : ys = [] := List.eq_nil_of_length_eq_zero hy
      subst this
      refine ⟨.slice as 0 0, w, E, st.G, st.nx, .list [] .none, ?_, Ev.refl E w, ?_, hsim.g, h⟩
      · have := run_append_zero0 (P := P) w t o.type e i ht hie as ao 0 0 c (Nat.le_refl _)
        simp only [execOp, ho, resolve, invoke, builtin, Sem.run_bind, Sem.run_pure, Result.andThen_ok, List.map_toArray, List.map_cons, List.map_nil, e1, e2]
        simp only [List.length_nil] at this ⊢
        rw [this]; rfl
      · exact R.mk_list (rows := []) (cap := 0) (sz := 1) (us := []) (Nat.le_refl _) (Nat.zero_le _) (Nat.le_refl _) (by simp) (by simp) Rs.nil (.inl rfl) (by simp) (by simp) (by simp)
    · obtain ⟨ad, rfl, hcells⟩ := hnews.resolve_left hy
      have key : ∃ nc, (Builtin.append_ #[t, t] o.type #[.slice as 0 0, .slice (some ad) ys.length c]).run P w = .ok (.slice (some ⟨w.heap.size, 0, none⟩) ys.length nc) (w.drew.alloc (.cells (news.toArray ++ Builtin.zeroCells z.cells (nc - ys.length)) e)) ∧ ys.length ≤ nc ∧ nc ≤ maxLen := by
        refine ⟨grownCap w (0 + ys.length) 0 e, ?_, ?_, ?_⟩
        · cases as with
          | none =>
            have := run_append_nil (P := P) w t o.type e i z ht hie hz ad ys.length c news hl hcells (by omega) (by omega) (by omega)
            simpa using this
          | some a0 =>
            have := run_append_grow (P := P) w t o.type e i z ht hie hz a0 0 0 [] (by simp) (by simp) ad ys.length c news hl hcells (by omega) (by omega) (growslice_fits (by omega) (by simpa using hb))
            simpa using this
        · have := grownCap_ge w (0 + ys.length) 0 e; omega
        · exact grownCap_le_maxLen w (0 + ys.length) 0 e (by unfold maxLen; omega)
      obtain ⟨nc, hrun, hnc, hnm⟩ := key
      have hx0 : ys.length * i.size = 0 ∨ ∃ v, (w.drew.alloc (.cells (news.toArray ++ Builtin.zeroCells z.cells (nc - ys.length)) e)).cell? ⟨w.heap.size, 0, none⟩ = some v := by
        rcases alloc_cell0 w.drew (news.toArray ++ Builtin.zeroCells z.cells (nc - ys.length)) e with h0 | h0
        · left
          simp only [Array.size_append, List.size_toArray] at h0
          omega
        · exact .inr h0
      have hev := Ev.laid hsim.g (o := .cells (news.toArray ++ Builtin.zeroCells z.cells (nc - ys.length)) e) (ys.length * i.size) (.inr rfl) hx0
      refine ⟨.slice (some ⟨w.heap.size, 0, none⟩) ys.length nc, w.drew.alloc (.cells (news.toArray ++ Builtin.zeroCells z.cells (nc - ys.length)) e), _, st.G, st.nx, .list ys .none, ?_, hev, ?_, SimG.laid hsim.g (ys.length * i.size) (.inr rfl) hx0, h⟩
      · simp only [execOp, ho, resolve, invoke, builtin, Sem.run_bind, Sem.run_pure, Result.andThen_ok, List.map_toArray, List.map_cons, List.map_nil, e1, e2]
        simp only [List.length_nil]
        rw [hrun]; rfl
      · refine R.mk_list hnc hnm hsz1 hsz hone (hr.ev hev) (.inr ⟨w.heap.size, 0, rfl, by simp only [Env.lay, if_true]; omega, fun j u hu => ?_⟩) (by simp) (by simp) (by simp)
        rw [Nat.zero_add]
        refine cell_of_heap (heap_new w.drew _) ?_
        have hlt := (List.getElem?_eq_some_iff.1 hu).1
        rw [Array.getElem?_append_left (by simpa using hlt)]
        simpa using hu

theorem own_cell {w : World} {base n size : Nat} {e : TypeId} {v : Value} {xs : List Value} (h : w.ownsRow base e size v n xs) {b : Nat} (hb : blk v = some b) {j : Nat} (hj : j < n * size) : w.cell? ⟨b, j, none⟩ = xs[j]? := by
  rcases h.2 with ⟨rfl, _⟩ | ⟨g, cap, cur, rfl, _, hh, _, _, _, htk⟩
  · simp [blk] at hb
  · simp only [blk, Option.some.injEq] at hb
    subst hb
    rw [← htk, List.getElem?_take, if_pos hj]
    simp [World.cell?, hh]
theorem own_slice {w : World} {base n size : Nat} {e : TypeId} {v : Value} {xs : List Value} (h : w.ownsRow base e size v n xs) {b : Nat} (hb : blk v = some b) : ∃ cap, v = .slice (some ⟨b, 0, none⟩) n cap ∧ n ≤ cap ∧ cap ≤ maxLen ∧ b < w.heap.size := by
  rcases h.2 with ⟨rfl, _⟩ | ⟨g, cap, cur, rfl, _, hh, h1, h2, _, htk⟩
  · simp [blk] at hb
  · simp only [blk, Option.some.injEq] at hb
    subst hb
    exact ⟨cap, rfl, h1, h2, (Array.getElem?_eq_some_iff.1 hh).1⟩

/-- append onto the row's end. -/
theorem e_append_tip {t e : TypeId} {sz bytes n : Nat} [AppT P t e sz bytes] {s x : Operand} {tk : Tok} {rows ys : List (List C)} (ho : o.op = .call { callee := .builtin .append, args := #[s, x], argTypes := #[t, t] }) (hs : evC st s = .list rows (.tip n)) (hG : st.G n = some (.tip rows.length e sz)) (hx : evC st x = .list ys tk) (hszr : ∀ r ∈ rows, r.length = sz) (hsz : ∀ r ∈ ys, r.length = sz) (hb : (rows.length + ys.length) * bytes ≤ 140737488355328) (hm : rows.length + ys.length ≤ 9223372036854775807)
    (h : K (St.put { st with G := setG st.G n (.tip (rows.length + ys.length) e sz) } o.dst (.list (rows ++ ys) (.tip n)))) : EStep P o st K :=
  estep_run fun E w a hsim => by
    obtain ⟨ht, i, z, hie, hz, h1, h2, h3⟩ := AppT.spec (P := P) (t := t) (e := e) (sz := sz) (bytes := bytes)
    obtain ⟨val, us, hT, hown, hL, hsz1⟩ := hsim.g.obj n _ hG
    obtain ⟨as, cap, sz', us', e1, h6, h7, h8, h9, h10, h11, h12, _, _, h13⟩ := (hs ▸ hsim.ev s).list_inv
    obtain ⟨q1, q2⟩ := h13 n rfl
    have hval := (q2 _ _ _ hT).2 rfl
    obtain ⟨ao, c, news, e2, hl, hnews, hr, hone, h1c⟩ := app_src (hx ▸ hsim.ev x) hsz
    subst h1; subst h2
    obtain ⟨v', w', hrun, hown', hgr, hne, heq⟩ := run_append_at (P := P) w E.B t o.type e i z ht hie hz h3 val rows.length us hown ao ys.length c news hl hnews h1c (by unfold maxLen; omega) hb hsim.g.base
    have hexec : (execOp a.eval o).run P w = .ok (.value v') w' := by
      simp only [execOp, ho, resolve, invoke, builtin, Sem.run_bind, Sem.run_pure, Result.andThen_ok, List.map_toArray, List.map_cons, List.map_nil, e1, e2]
      rw [← hval, hrun]; rfl
    by_cases hy : ys.length = 0
    · have hyn : ys = [] := List.eq_nil_of_length_eq_zero hy
      subst hyn
      have hv : v' = val := heq rfl
      have hw : w' = w := by
        have := run_append_zero0 (P := P) w t o.type e i ht hie as ao rows.length cap c h6
        rw [← hval] at this
        simp only [List.length_nil] at hrun
        rw [hrun] at this
        injection this
      subst hv; subst hw
      have hGeq : setG st.G n (.tip (rows.length + ([] : List (List C)).length) e i.size) = st.G := by
        funext k
        simp only [setG]
        split
        · rename_i e; subst e; simp [hG]
        · rfl
      refine ⟨v', w', E, _, st.nx, _, hexec, Ev.refl E w', ?_, ?_, h⟩
      · rw [List.append_nil, hval, ← e1]; exact hs ▸ hsim.ev s
      · rw [hGeq]; exact hsim.g
    · obtain ⟨g, cap', rfl⟩ := hne hy
      have hulen : us.length = rows.length * i.size := hown.1
      -- the values in the row are those of the slice
      have hpos : 0 < i.size := hsz1
      have hcellsg : ∃ o, w'.heap[g]? = some o ∧ o.isCells = true := by
        rcases hown'.2 with ⟨e, _⟩ | ⟨g', cap, cur, e, _, hh, _⟩
        · cases e
        · simp only [Value.slice.injEq, Option.some.injEq, Addr.mk.injEq] at e
          obtain ⟨⟨rfl, _⟩, _⟩ := e
          exact ⟨_, hh, rfl⟩
      have hchg : Chg E w w' rows.length 0 val (rows.length + ys.length) 0 (.slice (some ⟨g, 0, none⟩) (rows.length + ys.length) cap') ((rows.length + ys.length) * i.size) := by
        have hgb : w.grownBy w' (blk val) := by
          rcases hgr with ⟨_, h⟩ | ⟨_, h⟩
          · exact h
          · exact ⟨h.os, h.tape, h.output, h.size, fun k hk _ => h.block k hk (by simp)⟩
        refine ⟨⟨hgb.os, hgb.tape, hgb.output, hgb.size, fun k hk => hgb.block k (Nat.lt_of_lt_of_le hk hsim.g.base) fun e => ?_⟩, fun k hk hne => hgb.block k hk (fun e => hne e.symm), fun b hb => ?_, fun b j hb hj => ?_, .inl (by omega), fun b o hb ho => ?_, fun _ b hb => ?_, fun b hb _ => ?_⟩
        · have := (hsim.g.tb n _ _ _ k hT e.symm).1; omega
        · simp only [blk, Option.some.injEq] at hb
          subst hb
          rcases hgr with ⟨h, _⟩ | ⟨h, _⟩
          · left
            refine ⟨h.symm, ?_⟩
            rw [hL g h.symm]
            exact Nat.mul_le_mul_right _ (by omega)
          · right
            simp only [blk, Option.some.injEq] at h
            subst h
            obtain ⟨_, _, _, _, hlt⟩ := own_slice hown' (b := w.heap.size) rfl
            exact ⟨Nat.le_refl _, hlt⟩
        · -- the row's committed cells
          have hb' := hL b hb
          rw [hb'] at hj
          rcases hgr with ⟨h, _⟩ | ⟨_, h⟩
          · have hbg : b = g := by rw [hb] at h; simp only [blk, Option.some.injEq] at h; exact h.symm
            subst hbg
            have c1 := own_cell hown hb hj
            have c2 := own_cell hown' (b := b) rfl (j := j) (by rw [Nat.add_mul]; omega)
            rw [c1, c2, List.getElem?_append_left (by omega)]
          · have hlt := (hsim.g.tb n _ _ _ b hT hb).2
            exact World.cell?_of_block (w := w) (h.block b hlt (by simp))
        · rcases hown.2 with ⟨e, _⟩ | ⟨g', cap, cur, e, _, hh, _⟩
          · rw [e] at hb; simp [blk] at hb
          · rw [e] at hb
            simp only [blk, Option.some.injEq] at hb
            subst hb
            rw [hh] at ho; cases ho
            rcases hgr with ⟨h, _⟩ | ⟨_, h⟩
            · have hbg : g' = g := by rw [e] at h; simp only [blk, Option.some.injEq] at h; exact h.symm
              subst hbg
              exact hcellsg
            · have hlt := (Array.getElem?_eq_some_iff.1 hh).1
              exact ⟨_, (h.block g' hlt (by simp)).trans hh, rfl⟩
        · simp only [blk, Option.some.injEq] at hb
          subst hb
          exact hcellsg
        · simp only [blk, Option.some.injEq] at hb
          subst hb
          have hpos2 : 0 < (rows.length + ys.length) * i.size := Nat.mul_pos (by omega) hpos
          have h0 := own_cell hown' (b := g) rfl (j := 0) hpos2
          rw [List.getElem?_eq_getElem (by rw [hown'.1]; exact hpos2)] at h0
          exact ⟨_, h0⟩
      have hev := Ev.chg hsim.g hT hchg
      have hcells : ∀ (j : Nat) u, (us ++ news)[j]? = some u → w'.cell? ⟨g, j, none⟩ = some u := fun j u hu => by
        rw [own_cell hown' (b := g) rfl (j := j) (by have := (List.getElem?_eq_some_iff.1 hu).1; rw [hown'.1] at this; exact this)]
        exact hu
      obtain ⟨cap2, hc2, hc3, hc4, _⟩ := own_slice hown' (b := g) rfl
      simp only [Value.slice.injEq, true_and] at hc2
      subst hc2
      -- the slice's own values
      have hrus : Rs E w rows.flatten us := by
        rcases h12 with rfl | ⟨b, off, ea, h14, h15⟩
        · have : us = [] := List.eq_nil_of_length_eq_zero (by rw [hulen]; simp)
          subst this
          exact Rs.nil
        · have hblk : blk val = some b := by rw [hval, ea]; rfl
          have heq : us' = us := by
            have hl1 : us'.length = us.length := by rw [h11.1, hulen]; exact flat_len hszr
            have hoff : off = 0 := by
              obtain ⟨_, hv, _⟩ := own_slice hown hblk
              rw [hval, ea] at hv
              simp only [Value.slice.injEq, Option.some.injEq, Addr.mk.injEq] at hv
              exact hv.1.2.1
            subst hoff
            apply List.ext_getElem?
            intro j
            by_cases hj : j < us'.length
            · have c1 := own_cell hown hblk (j := j) (by omega)
              have c2 := h15 j _ (List.getElem?_eq_getElem hj)
              rw [Nat.zero_add] at c2
              rw [List.getElem?_eq_getElem hj, ← c2, c1]
            · rw [List.getElem?_eq_none (by omega), List.getElem?_eq_none (by omega)]
          rw [← heq]; exact h11
      have hobj : ObjOk (E.chg n (rows.length + ys.length, 0, .slice (some ⟨g, 0, none⟩) (rows.length + ys.length) cap') ((rows.length + ys.length) * i.size)) w' n (.tip (rows.length + ys.length) e i.size) := by
        refine ⟨_, us ++ news, by simp [Env.chg], hown', fun b hb => ?_, hsz1⟩
        simp only [blk, Option.some.injEq] at hb
        subst hb
        simp [Env.chg, blk]
      refine ⟨_, w', _, _, st.nx, .list (rows ++ ys) (.tip n), hexec, hev, ?_, SimG.chg hsim.g hT hchg hobj, h⟩
      have hlen : (rows ++ ys).length = rows.length + ys.length := List.length_append
      have := R.mk_list (E := E.chg n (rows.length + ys.length, 0, .slice (some ⟨g, 0, none⟩) (rows.length + ys.length) cap') ((rows.length + ys.length) * i.size)) (w := w') (rows := rows ++ ys) (a := some ⟨g, 0, none⟩) (cap := cap') (sz := i.size) (us := us ++ news) (tok := .tip n) (by omega) hc4 hsz1
        (fun r hr => by rcases List.mem_append.1 hr with hr | hr; exact hszr r hr; exact hsz r hr)
        (fun r hr => by rcases List.mem_append.1 hr with hr | hr; exact h10 r hr; exact hone r hr)
        (by rw [List.flatten_append]; exact (hrus.ev hev).append (hr.ev hev))
        (.inr ⟨g, 0, rfl, by rw [hown'.1]; simp [Env.chg, blk], fun j u hu => by rw [Nat.zero_add]; exact hcells j u hu⟩)
        (by simp) (by simp) (fun m hm => by
          simp only [Tok.tip.injEq] at hm
          subst hm
          refine ⟨q1, fun ver wv val ht => ?_⟩
          simp only [Env.chg, if_true, Option.some.injEq, Prod.mk.injEq] at ht
          obtain ⟨rfl, rfl, rfl⟩ := ht
          rw [hlen]
          exact ⟨Nat.le_refl _, fun _ => rfl⟩)
      rw [hlen] at this
      exact this
end
end Go.AB
