/-
 Loops whose rounds make names that stay; slices in a map that grow.
-/
import Derived.Test.YtejhjijbgceklaaAbTwin
import Derived.Test.YtejhjijbgceklaaEngB
namespace Go.AB
open Go Go.RowKit
open Go.AB.Enc (cells)
variable {ρ : Option Nat}
section
variable {P : Program} {Q : Exit → St → Prop} {st : St}
end
section
variable {P : Program} {o : Oper} {st : St} {K : St → Prop}
/-- A nil slice in a slot gets a name, ahead of an operation. -/
theorem e_adopt (i : Nat) (e : TypeId) (sz : Nat) (h0 : st.at i = .list [] .nil) (hsz : 1 ≤ sz) (h : EStep P o { st with r := (i, .list [] (.tip st.nx)) :: st.r, G := setG st.G st.nx (.tip 0 e sz), nx := st.nx + 1 } K) : EStep P o st K := by
 intro E w a hs
 have hnx := hs.g.nx
 have hev := Ev.name hs.g (.slice none 0 0) (fun b o hb _ => by simp [blk] at hb)
 have hg := SimG.name hs.g (.slice none 0 0) (.tip 0 e sz) (fun b hb => by simp [blk] at hb) ⟨.slice none 0 0, [], by simp [Env.name, hnx], World.ownsRow_nil _ _ _ _, fun b hb => by simp [blk] at hb, hsz⟩
 have hp := hs.at i
 rw [h0] at hp
 have hs2 := hs.evd hev hg
 have hs3 : Sim (E.name (.slice none 0 0)) w { st with r := (i, .list [] (.tip st.nx)) :: st.r, G := setG st.G st.nx (.tip 0 e sz), nx := st.nx + 1 } a := by
  refine ⟨hs.d.ev hev, hs.sz, fun j v hj => ?_, hg⟩
  simp only [getA]
  cases hb : Nat.beq i j
  ·exact hs2.t j v hj
  ·have hij := Nat.eq_of_beq_eq_true hb
   subst hij
   have hv : a.tmps.getD i undef = v := by rw [Array.getD_eq_getD_getElem?, hj]; rfl
   rw [hv] at hp
   obtain ⟨as, cap, s, us, rfl, h1, h2, _, _, _, _, _, z1, _⟩ := hp.list_inv
   obtain ⟨rfl, rfl⟩ := z1 rfl
   exact R.mk_list (rows := []) (sz := 1) (us := []) (Nat.le_refl _) (Nat.zero_le _) (Nat.le_refl _) (by simp) (by simp) Rs.nil (.inl rfl) (by simp) (by simp) fun n hn => by
    simp only [Tok.tip.injEq] at hn
    subst hn
    refine ⟨by simp [Env.name]; omega, fun ver wv val ht => ?_⟩
    simp only [Env.name] at ht
    rw [if_pos (by omega)] at ht
    simp only [Option.some.injEq, Prod.mk.injEq] at ht
    obtain ⟨rfl, rfl, rfl⟩ := ht
    exact ⟨Nat.le_refl _, fun _ => rfl⟩
 exact fun Kr Q hq => h _ w a hs3 Kr Q fun a' w' st' E' hev' => hq a' w' st' E' (hev.trans hev')
end
/-- A map whose values are known less well. -/
theorem aw_map_weak {P : Program} {Q : Exit → St → Prop} {st : St} {c : Code} {α : Type} [KeyV α] {k : TypeId} {n wv : Nat} {m m' : α → Option C} (hG : st.G n = some (gmap P k wv m)) (hm : ∀ x c, m x = some c → ∃ c', m' x = some c' ∧ ∀ (E : Env) (w : World) (v : Value), R E w c v → R E w c' v) (hm2 : ∀ x c', m' x = some c' → ∃ c, m x = some c) (h : AW ρ P c Q { st with G := setG st.G n (gmap P k wv m') }) : AW ρ P c Q st := by
 intro E w a hs
 refine h E w a ⟨hs.d, hs.sz, hs.t, ?_⟩
 refine ⟨hs.g.nx, fun j o ho => ?_, hs.g.lt, hs.g.tb, hs.g.ap, hs.g.fresh, hs.g.base⟩
 simp only [setG] at ho
 split at ho
 ·rename_i ej
  subst ej
  simp only [Option.some.injEq] at ho
  subst ho
  obtain ⟨r, es, clock, h1, h2, h3, h4⟩ := hs.g.obj j _ hG
  refine ⟨r, es, clock, h1, h2, ⟨h3.ok, h3.pw, h3.pb, fun e he => ?_, fun x c' hx => ?_⟩, h4⟩
  ·obtain ⟨c, q1, q2⟩ := h3.val e he
   obtain ⟨x, l, q3, _⟩ := h3.ok e he
   rw [q3, mapV_kv] at q1 ⊢
   obtain ⟨c', q5, q6⟩ := hm x c q1
   exact ⟨c', q5, q6 E w _ q2⟩
  ·by_cases hex : ∃ y : α, x = KeyV.kv y
   ·obtain ⟨y, rfl⟩ := hex
    rw [mapV_kv] at hx
    obtain ⟨c, hc⟩ := hm2 y c' hx
    exact h3.has (KeyV.kv y) c (by rw [mapV_kv, hc])
   ·rw [mapV_none _ hex] at hx; cases hx
 ·exact hs.g.obj j o ho
/-- What is looked up, as it is said. -/
theorem s_lookupC {P : Program} {o : Oper} {st : St} {α : Type} [KeyV α] {D : Nat → Prop} {t k e : TypeId} [MapT P t k e] [KeyT P k α] {x i : Operand} {n wv : Nat} {m : α → Option C} {c : C} {z : Value} [Zero P e z] (key : α) (ho : o.op = .lookup t x i false) (hx : evC st x = .map n) (hG : st.G n = some (gmap P k wv m)) (hD : D n) (hi : evC st i = KeyV.kc key) (hc : (m key).getD (constC z) = c) : SStep P D o st c := by
 subst hc
 exact s_lookup key ho hx hG hD hi rfl
end Go.AB
