/-
 A slice that is copied: what is copied is owned.
-/
import Derived.Test.YtjjklfgpffgnfaaGreatDoorEngB
namespace Go.AB
open Go Go.RowKit
open Go.AB.Enc (cells)
section
variable {P : Program} {o : Oper} {st : St} {K : St → Prop}
/-- append to a slice without room: a copy, owned. -/
theorem e_append_new {α : Type} [Enc α] {t e : TypeId} {bytes : Nat} [AppT P t e (Enc.n α) bytes] {s x : Operand} {tok tk : Tok} (xs : List α) (ho : o.op = .call { callee := .builtin .append, args := #[s, x], argTypes := #[t, t] }) (hs : evC st s = .list [] tok) (htok : tok = .zero ∨ tok = .nil) (hx : evC st x = .list (xs.map cells) tk) (hsz1 : 1 ≤ Enc.n α) (hne : xs ≠ []) (hb : xs.length * bytes ≤ 140737488355328) (hm : xs.length ≤ 9223372036854775807)
  (h : K (St.put { st with G := setG st.G st.nx (.arr 0 0 e (Enc.n α) xs.length (flatC xs)), nx := st.nx + 1 } o.dst (.own st.nx 0 xs.length))) : EStep P o st K :=
 estep_run fun E w a hsim => by
  obtain ⟨ht, i, z, hie, hz, h1, h2, h3⟩ := AppT.spec (P := P) (t := t) (e := e) (sz := Enc.n α) (bytes := bytes)
  obtain ⟨as, cap, _, _, e1, _, _, _, _, _, _, _, z1, z2, _⟩ := (hs ▸ hsim.ev s).list_inv
  have hcap : cap = 0 := by
   rcases htok with h | h
   ·exact z2 h
   ·exact (z1 h).2
  subst hcap
  obtain ⟨ao, c, news, e2, hl, hnews, hr, hone, h1c⟩ := app_src (hx ▸ hsim.ev x) (map_len xs)
  rw [List.length_map] at e2 hl hnews
  subst h2
  rw [← h1] at hl hsz1
  have hy : ¬ xs.length = 0 := fun h0 => hne (List.eq_nil_of_length_eq_zero h0)
  obtain ⟨ad, rfl, hcells⟩ := hnews.resolve_left hy
  have key : ∃ nc, (Builtin.append_ #[t, t] o.type #[.slice as 0 0, .slice (some ad) xs.length c]).run P w = .ok (.slice (some ⟨w.heap.size, 0, none⟩) xs.length nc) (w.drew.alloc (.cells (news.toArray ++ Builtin.zeroCells z.cells (nc - xs.length)) e)) ∧ xs.length ≤ nc ∧ nc ≤ maxLen := by
   refine ⟨grownCap w (0 + xs.length) 0 e, ?_, ?_, ?_⟩
   ·cases as with
    | none =>
     have := run_append_nil (P := P) w t o.type e i z ht hie hz ad xs.length c news hl hcells (by omega) (by omega) (by omega)
     simpa using this
    | some a0 =>
     have := run_append_grow (P := P) w t o.type e i z ht hie hz a0 0 0 [] (by simp) (by simp) ad xs.length c news hl hcells (by omega) (by omega) (growslice_fits (by omega) (by simpa using hb))
     simpa using this
   ·have := grownCap_ge w (0 + xs.length) 0 e; omega
   ·exact grownCap_le_maxLen w (0 + xs.length) 0 e (by unfold maxLen; omega)
  obtain ⟨nc, hrun, hnc, hnm⟩ := key
  obtain ⟨ob, hob⟩ : ∃ ob, ob = Obj.cells (news.toArray ++ Builtin.zeroCells z.cells (nc - xs.length)) e := ⟨_, rfl⟩
  rw [← hob] at hrun
  have hev := Ev.laid hsim.g (o := ob) 0 (.inr rfl) (.inl rfl)
  have hg := SimG.laid hsim.g (o := ob) 0 (.inr rfl) (.inl rfl)
  have hnew : (w.drew.alloc ob).heap[w.heap.size]? = some ob := heap_new w.drew ob
  have hsz : (w.drew.alloc ob).heap.size = w.heap.size + 1 := by simp
  have hold : ∀ n tt b, (E.lay w.heap.size 0).T n = some tt → blk tt.2.2 = some b → b < w.heap.size := fun n tt b h5 h6 => (hsim.g.tb n _ _ _ b h5 h6).2
  have hnx := hsim.g.nx
  have hfr : ∀ b o', blk (.slice (some ⟨w.heap.size, 0, none⟩) xs.length nc) = some b → w.heap[b]? = some o' → False := fun b o' hbk ho' => by
   simp only [blk, Option.some.injEq] at hbk
   subst hbk
   have := (Array.getElem?_eq_some_iff.1 ho').1
   omega
  have hev2 := hev.thenName (.slice (some ⟨w.heap.size, 0, none⟩) xs.length nc) hfr
  have hrs : Rs ((E.lay w.heap.size 0).name (.slice (some ⟨w.heap.size, 0, none⟩) xs.length nc)) (w.drew.alloc ob) (flatC xs) news := hr.ev hev2
  have hg2 := SimG.name hg (.slice (some ⟨w.heap.size, 0, none⟩) xs.length nc) (.arr 0 0 e (Enc.n α) xs.length (flatC xs)) (fun b hbk => by
   simp only [blk, Option.some.injEq] at hbk
   subst hbk
   exact ⟨hsim.g.base, by rw [hsz]; omega, fun n tt h5 h6 => absurd (hold n tt _ h5 h6) (by omega)⟩) (by
   refine ⟨.slice (some ⟨w.heap.size, 0, none⟩) xs.length nc, news, ?_, ⟨by rw [hl, h1], .inr ⟨w.heap.size, nc, _, rfl, hsim.g.base, hnew.trans (by rw [hob]), hnc, hnm, ?_, ?_⟩⟩, fun c hc => by
    obtain ⟨r, hr1, hc1⟩ := List.mem_flatten.1 hc
    obtain ⟨y, _, rfl⟩ := List.mem_map.1 hr1
    exact Enc.one y c hc1, hrs, fun b hbk => ?_, by rw [← h1]; exact hsz1⟩
   ·simp [Env.name, Env.lay, hnx]
   ·have hzc : (Builtin.zeroCells z.cells (nc - xs.length)).size = (nc - xs.length) * i.size := by rw [size_zeroCells, h3, h1]
    rw [Array.size_append, List.size_toArray, hl, hzc, ← Nat.add_mul, h1]
    congr 1
    omega
   ·rw [Array.toList_append, List.toList_toArray, List.take_append_of_le_length (by rw [hl, h1]; exact Nat.le_refl _), List.take_of_length_le (by rw [hl, h1]; exact Nat.le_refl _)]
   ·simp only [blk, Option.some.injEq] at hbk
    subst hbk
    simp [Env.name, Env.lay])
  refine ⟨.slice (some ⟨w.heap.size, 0, none⟩) xs.length nc, w.drew.alloc ob, _, _, _, .own st.nx 0 xs.length, ?_, hev2, ?_, hg2, h⟩
  ·simp only [execOp, ho, resolve, invoke, builtin, Sem.run_bind, Sem.run_pure, Result.andThen_ok, List.map_toArray, List.map_cons, List.map_nil, e1, e2]
   simp only [List.length_nil]
   rw [hrun]; rfl
  ·refine R.own (by simp [Env.name, Env.lay]; omega) hnc hnm fun ver wv val htt => ?_
   simp only [Env.name, Env.lay, hnx, if_true, Option.some.injEq, Prod.mk.injEq] at htt
   obtain ⟨rfl, rfl, rfl⟩ := htt
   exact ⟨Nat.le_refl _, fun _ => rfl⟩
end
end Go.AB
