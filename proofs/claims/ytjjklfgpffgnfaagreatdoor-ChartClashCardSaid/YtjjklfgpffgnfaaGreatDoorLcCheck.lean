/-
 Contracts of the program's functions that check a text.
-/
import Derived.Test.YtjjklfgpffgnfaaGreatDoorCfFuncs
import Derived.Test.YtjjklfgpffgnfaaGreatDoorCkKeys
namespace Go.AB
open Go Go.RowKit
open Go.PB (bv ai PlaceD)
def pg (n : Int) : Bool := decide (n < 97) || decide (122 < n)
theorem ume (s : ByteArray) : (u8s s).any (fun x => pg x.v) = !s.data.toList.all okc := by
 unfold u8s
 rw [List.any_map]
 induction s.data.toList with
 | nil => rfl
 | cons b l ih =>
  simp only [List.any_cons, List.all_cons, ih, Function.comp, okc, pg, Bool.not_and]
  congr 1
  have e1 : decide (((b.toNat : Nat) : Int) < 97) = !decide (97 ≤ b.toNat) := by by_cases h : 97 ≤ b.toNat <;> simp [h] <;> omega
  have e2 : decide ((122 : Int) < ((b.toNat : Nat) : Int)) = !decide (b.toNat ≤ 122) := by by_cases h : b.toNat ≤ 122 <;> simp [h] <;> omega
  rw [e1, e2]
theorem yc (s : ByteArray) : ky s = (inB s.size 1 12 && !(u8s s).any fun x => pg x.v) := by rw [ume]; simp [ky]
theorem uas (l : List ByteArray) : km l = (inB l.length 1 10 && !l.any fun s => !ky s) := by
 unfold km
 congr 1
 rw [Bool.eq_iff_iff]; simp
/-- the numbers of some chapters -/
def lk (xs : List Int) : Int → Option C := fun x => bif decide (x ∈ xs) then some (.v (.bool true)) else none
theorem uio (xs : List Int) (x : Int) : (lk xs x).getD (iw (.bool false)) = .v (.bool (decide (x ∈ xs))) := by
 unfold lk
 cases decide (x ∈ xs) <;> rfl
theorem uin : lk [] = fun _ => none := by funext x; simp [lk]
theorem uim {t : ai} {k : Nat} {c : bv} (h : t[k]? = some c) : f7 (lk ((t.take k).map (·.id))) c.id (.v (.bool true)) = lk ((t.take (k + 1)).map (·.id)) := by
 funext x
 rw [s0 (f := (·.id)) h]
 unfold f7 lk
 by_cases hx : x = c.id
 ·simp [hx]
 simp [hx]
theorem rk (xs : List Int) (n : Nat) : ∀ x c, lk xs x = some c → C.low n c := by
 intro x c h
 unfold lk at h
 cases hd : decide (x ∈ xs) <;> rw [hd] at h
 ·cases h
 cases h; exact .v
theorem uef {t : ai} (h : inB t.length 1 6 = false) : g5 t = 10 := by simp [g5, ct, h]
theorem uj {t : ai} (h : t.all jj = false) : g5 t = 10 := by simp [g5, ct, h]
theorem uee {t : ai} (h : ¬ (t.map (·.id)).Nodup) : g5 t = 10 := by simp [g5, ct, h]
end Go.AB
namespace Go.Proofs.YtjjklfgpffgnfaaGreatDoor
set_option maxRecDepth 10000
open Go.RowKit Go.AB
open Go.AB.Enc (cells)
open Go.PB (bv ai PlaceD cy c6 cz)
theorem umy (xs : List ByteArray) (p : ByteArray → Bool) (k : Nat) (caps : List C) [Fun Tryz.prog k] (hp : ∀ x ∈ xs, c8 Tryz.prog k (.v (.string x) :: caps) (.v (.bool (p x)))) : c8 Tryz.prog 124 [lst xs, .fn (.func k) caps] (.v (.int .i64 (ni p xs))) := by
 refine dr Tryz.func124 rfl (fun m => .v) fun G nx => ?_
 simp only [Tryz.ntmps124, List.length_cons, List.length_nil, Nat.reduceAdd, Nat.reduceSub]
 refine bi fun hlt => ?_
 dsimp only at hlt
 refine lz 0 (fun hf => ?_)
 replace hf := (fit_lst.1 hf).1
 refine yS fun _ K1 => ?_
 refine yR ?_
 refine yA rfl rfl ?_
 refine yN ?_
 dsimp only [St.put]
 refine K1 _ ?_
 refine yS fun _ K2 => ?_
 refine yS fun _ K3 => ?_
 refine yR ?_
 refine yM rfl rfl ?_
 refine aa rfl (ck rfl rfl (List.length_map _)) ?_
 refine yM rfl rfl ?_
 refine yN ?_
 dsimp only [St.put]
 refine K3 _ ?_
 refine bn ?_
 refine eg 9 ?_
 simp only [dj, bq, Nat.reduceAdd, List.getD_cons_zero, List.getD_cons_succ, List.getD_nil, dw, Nat.reduceBEq, cond_true, cond_false]
 refine fg (G) zX ?_
 dsimp only
 refine fu (X := Nat) (fun k => k ≤ xs.length ∧ ∀ y ∈ xs.take k, p y = false) (fun k => xs.length - k) (fun k => [(4, .any), (5, .any), (8, .v (.int .i64 (k : Int)))]) (fun k G' => G') 0 rfl ?_ ?_ (fun _ _ h => h) ?_ ?_ ?_
 ·exact ⟨by simp, by simp⟩
 ·exact zF
 ·rintro k hI
  exact zL
 ·exact fun _ _ _ _ h => .inl h
 rintro k hI
 dsimp only at hI ⊢
 refine yS fun _ K4 => ?_
 refine yR ?_
 refine aa rfl (cr rfl rfl rfl) ?_
 refine yN ?_
 dsimp only [St.put]
 refine K4 _ ?_
 refine yS fun _ K5 => ?_
 refine al rfl (fun hc => ?_) (fun hc => ?_)
 ·replace hc := of_decide_eq_true hc
  obtain ⟨x, hx⟩ : ∃ x, xs[k]? = some x := fj (by omega)
  refine aw ?_
  refine K5 _ ?_
  refine yS fun _ K6 => ?_
  refine bn ?_
  refine yS fun _ K7 => ?_
  refine yR ?_
  refine yM rfl rfl ?_
  refine yA rfl rfl ?_
  refine yN ?_
  dsimp only [St.put]
  refine K7 _ ?_
  refine yS fun _ K8 => ?_
  refine yR ?_
  refine yM rfl rfl ?_
  refine yM rfl rfl ?_
  refine yM rfl rfl ?_
  refine aa rfl (b7 rfl rfl rfl rfl (cm (by assumption)) (Enc.len _)) ?_
  refine yL rfl rfl rfl ?_
  try dsimp only [St.put]
  refine ae rfl (bd rfl rfl rfl (hp x (gr hx)) ?_)
  refine yN ?_
  dsimp only [St.put]
  refine K8 _ ?_
  refine al rfl (fun hc => ?_) (fun hc => ?_)
  ·skip
   refine yS fun _ K9 => ?_
   refine yR ?_
   refine yM rfl rfl ?_
   refine yA rfl rfl ?_
   refine yN ?_
   dsimp only [St.put]
   refine K9 _ ?_
   refine am ?_
   refine bf rfl (by constructor) zN zS ?_
   exact vi (wg hx hc hI.2).symm
  skip
  refine aw ?_
  refine K6 _ ?_
  refine yR ?_
  refine aa rfl (bw rfl rfl rfl (by omega)) ?_
  refine yM rfl rfl ?_
  refine yN ?_
  dsimp only [St.put]
  exact ⟨k + 1, by omega, ⟨by omega, fun y hy => by
    rw [List.take_add_one, hx] at hy
    simp only [Option.toList_some, List.mem_append, List.mem_singleton] at hy
    rcases hy with hy | rfl
    ·exact hI.2 y hy
    simpa using hc⟩, ⟨⟨rfl, rfl⟩, zF, zB, zN, zX⟩⟩
 try replace hc := of_decide_eq_false hc
 refine ey ?_
 refine K2 _ ?_
 refine yS fun _ K10 => ?_
 refine yR ?_
 refine yA rfl rfl ?_
 refine yN ?_
 dsimp only [St.put]
 refine K10 _ ?_
 refine am ?_
 refine bf rfl (by constructor) zN zS ?_
 exact vi (by
  rw [wh]
  have := hI.2
  rwa [im (by omega)] at this)
theorem um0 (xs : List U8) (p : U8 → Bool) (k : Nat) (caps : List C) [Fun Tryz.prog k] (hp : ∀ x ∈ xs, c8 Tryz.prog k (.v (.int .u8 x.v) :: caps) (.v (.bool (p x)))) : c8 Tryz.prog 135 [lst xs, .fn (.func k) caps] (.v (.int .i64 (ni p xs))) := by
 refine dr Tryz.func135 rfl (fun m => .v) fun G nx => ?_
 simp only [Tryz.ntmps135, List.length_cons, List.length_nil, Nat.reduceAdd, Nat.reduceSub]
 refine bi fun hlt => ?_
 dsimp only at hlt
 refine lz 0 (fun hf => ?_)
 replace hf := (fit_lst.1 hf).1
 refine yS fun _ K1 => ?_
 refine yR ?_
 refine yA rfl rfl ?_
 refine yN ?_
 dsimp only [St.put]
 refine K1 _ ?_
 refine yS fun _ K2 => ?_
 refine yS fun _ K3 => ?_
 refine yR ?_
 refine yM rfl rfl ?_
 refine aa rfl (ck rfl rfl (List.length_map _)) ?_
 refine yM rfl rfl ?_
 refine yN ?_
 dsimp only [St.put]
 refine K3 _ ?_
 refine bn ?_
 refine eg 9 ?_
 simp only [dj, bq, Nat.reduceAdd, List.getD_cons_zero, List.getD_cons_succ, List.getD_nil, dw, Nat.reduceBEq, cond_true, cond_false]
 refine fg (G) zX ?_
 dsimp only
 refine fu (X := Nat) (fun k => k ≤ xs.length ∧ ∀ y ∈ xs.take k, p y = false) (fun k => xs.length - k) (fun k => [(4, .any), (5, .any), (8, .v (.int .i64 (k : Int)))]) (fun k G' => G') 0 rfl ?_ ?_ (fun _ _ h => h) ?_ ?_ ?_
 ·exact ⟨by simp, by simp⟩
 ·exact zF
 ·rintro k hI
  exact zL
 ·exact fun _ _ _ _ h => .inl h
 rintro k hI
 dsimp only at hI ⊢
 refine yS fun _ K4 => ?_
 refine yR ?_
 refine aa rfl (cr rfl rfl rfl) ?_
 refine yN ?_
 dsimp only [St.put]
 refine K4 _ ?_
 refine yS fun _ K5 => ?_
 refine al rfl (fun hc => ?_) (fun hc => ?_)
 ·replace hc := of_decide_eq_true hc
  obtain ⟨x, hx⟩ : ∃ x, xs[k]? = some x := fj (by omega)
  refine aw ?_
  refine K5 _ ?_
  refine yS fun _ K6 => ?_
  refine bn ?_
  refine yS fun _ K7 => ?_
  refine yR ?_
  refine yM rfl rfl ?_
  refine yA rfl rfl ?_
  refine yN ?_
  dsimp only [St.put]
  refine K7 _ ?_
  refine yS fun _ K8 => ?_
  refine yR ?_
  refine yM rfl rfl ?_
  refine yM rfl rfl ?_
  refine yM rfl rfl ?_
  refine aa rfl (b7 rfl rfl rfl rfl (cm (by assumption)) (Enc.len _)) ?_
  refine yL rfl rfl rfl ?_
  try dsimp only [St.put]
  refine ae rfl (bd rfl rfl rfl (hp x (gr hx)) ?_)
  refine yN ?_
  dsimp only [St.put]
  refine K8 _ ?_
  refine al rfl (fun hc => ?_) (fun hc => ?_)
  ·skip
   refine yS fun _ K9 => ?_
   refine yR ?_
   refine yM rfl rfl ?_
   refine yA rfl rfl ?_
   refine yN ?_
   dsimp only [St.put]
   refine K9 _ ?_
   refine am ?_
   refine bf rfl (by constructor) zN zS ?_
   exact vi (wg hx hc hI.2).symm
  skip
  refine aw ?_
  refine K6 _ ?_
  refine yR ?_
  refine aa rfl (bw rfl rfl rfl (by omega)) ?_
  refine yM rfl rfl ?_
  refine yN ?_
  dsimp only [St.put]
  exact ⟨k + 1, by omega, ⟨by omega, fun y hy => by
    rw [List.take_add_one, hx] at hy
    simp only [Option.toList_some, List.mem_append, List.mem_singleton] at hy
    rcases hy with hy | rfl
    ·exact hI.2 y hy
    simpa using hc⟩, ⟨⟨rfl, rfl⟩, zF, zB, zN, zX⟩⟩
 try replace hc := of_decide_eq_false hc
 refine ey ?_
 refine K2 _ ?_
 refine yS fun _ K10 => ?_
 refine yR ?_
 refine yA rfl rfl ?_
 refine yN ?_
 dsimp only [St.put]
 refine K10 _ ?_
 refine am ?_
 refine bf rfl (by constructor) zN zS ?_
 exact vi (by
  rw [wh]
  have := hI.2
  rwa [im (by omega)] at this)
theorem um4 (xs : List ByteArray) (p : ByteArray → Bool) (k : Nat) (caps : List C) [Fun Tryz.prog k] (hp : ∀ x ∈ xs, c8 Tryz.prog k (.v (.string x) :: caps) (.v (.bool (p x)))) : c8 Tryz.prog 98 [lst xs, .fn (.func k) caps] (.v (.bool (xs.any p))) := by
 refine dr Tryz.func98 rfl (fun m => .v) fun G nx => ?_
 simp only [Tryz.ntmps98, List.length_cons, List.length_nil, Nat.reduceAdd, Nat.reduceSub]
 refine bi fun hlt => ?_
 dsimp only at hlt
 refine yS fun _ K1 => ?_
 refine yR ?_
 refine yA rfl rfl ?_
 refine yN ?_
 dsimp only [St.put]
 refine K1 _ ?_
 refine yS fun _ K2 => ?_
 refine yR ?_
 refine yM rfl rfl ?_
 refine yM rfl rfl ?_
 try dsimp only [St.put]
 refine ae rfl (bd rfl rfl rfl (umy xs p k caps hp) ?_)
 refine aa rfl (m9 rfl rfl rfl) ?_
 refine yA rfl rfl ?_
 refine yN ?_
 dsimp only [St.put]
 refine K2 _ ?_
 refine am ?_
 refine bf rfl (by constructor) zN zS ?_
 exact vb wj
theorem um5 (xs : List U8) (p : U8 → Bool) (k : Nat) (caps : List C) [Fun Tryz.prog k] (hp : ∀ x ∈ xs, c8 Tryz.prog k (.v (.int .u8 x.v) :: caps) (.v (.bool (p x)))) : c8 Tryz.prog 125 [lst xs, .fn (.func k) caps] (.v (.bool (xs.any p))) := by
 refine dr Tryz.func125 rfl (fun m => .v) fun G nx => ?_
 simp only [Tryz.ntmps125, List.length_cons, List.length_nil, Nat.reduceAdd, Nat.reduceSub]
 refine bi fun hlt => ?_
 dsimp only at hlt
 refine yS fun _ K1 => ?_
 refine yR ?_
 refine yA rfl rfl ?_
 refine yN ?_
 dsimp only [St.put]
 refine K1 _ ?_
 refine yS fun _ K2 => ?_
 refine yR ?_
 refine yM rfl rfl ?_
 refine yM rfl rfl ?_
 try dsimp only [St.put]
 refine ae rfl (bd rfl rfl rfl (um0 xs p k caps hp) ?_)
 refine aa rfl (m9 rfl rfl rfl) ?_
 refine yA rfl rfl ?_
 refine yN ?_
 dsimp only [St.put]
 refine K2 _ ?_
 refine am ?_
 refine bf rfl (by constructor) zN zS ?_
 exact vb wj
theorem uhv (n lo hi : Int) : c8 Tryz.prog 97 [.v (.int .i64 n), .elem [.v (.int .i64 lo)], .elem [.v (.int .i64 hi)]] (.v (.bool (l9 n lo hi))) := by
 refine dr Tryz.func97 rfl (fun m => .v) fun G nx => ?_
 simp only [Tryz.ntmps97, List.length_cons, List.length_nil, Nat.reduceAdd, Nat.reduceSub]
 refine bi fun hlt => ?_
 dsimp only at hlt
 refine yS fun _ K1 => ?_
 refine yR ?_
 refine yA rfl rfl ?_
 refine yN ?_
 dsimp only [St.put]
 refine K1 _ ?_
 refine yS fun _ K2 => ?_
 refine yR ?_
 refine yM rfl rfl ?_
 refine yL rfl rfl rfl ?_
 refine aa rfl (cr rfl rfl rfl) ?_
 refine yM rfl rfl ?_
 refine e7 (fun hs => ?_) (fun hs => ?_)
 ·try replace hs := of_decide_eq_true hs
  refine yK rfl ?_
  refine yK rfl ?_
  refine yK rfl ?_
  refine aa rfl (bg rfl rfl (by constructor)) ?_
  refine yA rfl rfl ?_
  refine yN ?_
  dsimp only [St.put]
  refine K2 _ ?_
  refine am ?_
  refine bf rfl (by constructor) zN zS ?_
  exact vb (by simp [l9, hs]; try omega)
 try replace hs := of_decide_eq_false hs
 refine yM rfl rfl ?_
 refine yL rfl rfl rfl ?_
 refine aa rfl (gz rfl rfl rfl) ?_
 refine aa rfl (cd rfl rfl (by constructor)) ?_
 refine yA rfl rfl ?_
 refine yN ?_
 dsimp only [St.put]
 refine K2 _ ?_
 refine am ?_
 refine bf rfl (by constructor) zN zS ?_
 exact vb (by simp [l9, hs]; try omega)
theorem ng (lo hi : Int) (xs : List Int) : c8 Tryz.prog 79 [.v (.int .i64 lo), .v (.int .i64 hi), lst xs] (.v (.bool (jp lo hi xs))) := by
 refine dr Tryz.func79 rfl (fun m => .v) fun G nx => ?_
 simp only [Tryz.ntmps79, List.length_cons, List.length_nil, Nat.reduceAdd, Nat.reduceSub]
 refine bi fun hlt => ?_
 dsimp only at hlt
 refine yS fun _ K1 => ?_
 refine yR ?_
 try dsimp only [St.put]
 refine yB rfl rfl rfl ?_
 try dsimp only [St.put]
 refine yB rfl rfl rfl ?_
 refine yA rfl rfl ?_
 refine yN ?_
 dsimp only [St.put]
 refine K1 _ ?_
 refine yS fun _ K2 => ?_
 refine yR ?_
 refine yM rfl rfl ?_
 refine aa rfl (m8 rfl rfl) ?_
 try dsimp only [St.put]
 refine ae rfl (bd rfl rfl rfl (udi xs (fun n => l9 n lo hi) _ _ fun x _ => uhv x lo hi) ?_)
 refine aa rfl (dn rfl rfl) ?_
 refine yA rfl rfl ?_
 refine yN ?_
 dsimp only [St.put]
 refine K2 _ ?_
 refine am ?_
 refine bf rfl (by constructor) zN zS ?_
 rfl
theorem udv (n : Int) : c8 Tryz.prog 126 [.v (.int .u8 n)] (.v (.bool (pg n))) := by
 refine dr Tryz.func126 rfl (fun m => .v) fun G nx => ?_
 simp only [Tryz.ntmps126, List.length_cons, List.length_nil, Nat.reduceAdd, Nat.reduceSub]
 refine bi fun hlt => ?_
 dsimp only at hlt
 refine yS fun _ K1 => ?_
 refine yR ?_
 refine yA rfl rfl ?_
 refine yN ?_
 dsimp only [St.put]
 refine K1 _ ?_
 refine yS fun _ K2 => ?_
 refine yR ?_
 refine yM rfl rfl ?_
 refine aa rfl (cr rfl rfl rfl) ?_
 refine yM rfl rfl ?_
 refine e7 (fun hs => ?_) (fun hs => ?_)
 ·try replace hs := of_decide_eq_true hs
  refine yK rfl ?_
  refine yK rfl ?_
  refine aa rfl (bg rfl rfl (by constructor)) ?_
  refine yA rfl rfl ?_
  refine yN ?_
  dsimp only [St.put]
  refine K2 _ ?_
  refine am ?_
  refine bf rfl (by constructor) zN zS ?_
  exact vb (by simp [pg, hs]; try omega)
 try replace hs := of_decide_eq_false hs
 refine yM rfl rfl ?_
 refine aa rfl (gz rfl rfl rfl) ?_
 refine aa rfl (cd rfl rfl (by constructor)) ?_
 refine yA rfl rfl ?_
 refine yN ?_
 dsimp only [St.put]
 refine K2 _ ?_
 refine am ?_
 refine bf rfl (by constructor) zN zS ?_
 exact vb (by simp [pg, hs]; try omega)
theorem udu (s : ByteArray) : c8 Tryz.prog 100 [.v (.string s)] (.v (.bool (ky s))) := by
 refine dr Tryz.func100 rfl (fun m => .v) fun G nx => ?_
 simp only [Tryz.ntmps100, List.length_cons, List.length_nil, Nat.reduceAdd, Nat.reduceSub]
 refine bi fun hlt => ?_
 dsimp only at hlt
 refine yS fun _ K1 => ?_
 refine yR ?_
 refine yA rfl rfl ?_
 refine yN ?_
 dsimp only [St.put]
 refine K1 _ ?_
 refine yS fun _ K2 => ?_
 refine yR ?_
 refine yM rfl rfl ?_
 refine aa rfl (py rfl rfl) ?_
 try dsimp only [St.put]
 refine ae rfl (c9 rfl rfl rfl (by decide) (by decide) zR (by decide) ?_)
 try dsimp only [St.put]
 refine ae rfl (bd rfl rfl rfl (ng _ _ [(s.size : Int)]) ?_)
 refine yM rfl rfl ?_
 refine e7 (fun hs => ?_) (fun hs => ?_)
 ·rw [iz] at hs
  refine yM rfl rfl ?_
  try dsimp only [St.put]
  refine ae rfl (uj3 (by kernel_rfl) rfl rfl ?_)
  try dsimp only [St.put]
  refine ae rfl (bd rfl rfl rfl (um5 (u8s s) (fun x => pg x.v) _ _ fun x _ => udv x.v) ?_)
  refine aa rfl (dn rfl rfl) ?_
  refine aa rfl (bg rfl rfl (by constructor)) ?_
  refine yA rfl rfl ?_
  refine yN ?_
  dsimp only [St.put]
  refine K2 _ ?_
  refine am ?_
  refine bf rfl (by constructor) zN zS ?_
  exact vb (by rw [yc, hs]; rfl)
 rw [iz] at hs
 refine yK rfl ?_
 refine yK rfl ?_
 refine yK rfl ?_
 refine yK rfl ?_
 refine aa rfl (cd rfl rfl (by constructor)) ?_
 refine yA rfl rfl ?_
 refine yN ?_
 dsimp only [St.put]
 refine K2 _ ?_
 refine am ?_
 refine bf rfl (by constructor) zN zS ?_
 exact vb (by rw [yc, hs]; rfl)
theorem uhx (s : ByteArray) : c8 Tryz.prog 99 [.v (.string s)] (.v (.bool (!ky s))) := by
 refine dr Tryz.func99 rfl (fun m => .v) fun G nx => ?_
 simp only [Tryz.ntmps99, List.length_cons, List.length_nil, Nat.reduceAdd, Nat.reduceSub]
 refine bi fun hlt => ?_
 dsimp only at hlt
 refine yS fun _ K1 => ?_
 refine yR ?_
 refine yA rfl rfl ?_
 refine yN ?_
 dsimp only [St.put]
 refine K1 _ ?_
 refine yS fun _ K2 => ?_
 refine yR ?_
 refine yM rfl rfl ?_
 try dsimp only [St.put]
 refine ae rfl (bd rfl rfl rfl (udu _) ?_)
 refine aa rfl (dn rfl rfl) ?_
 refine yA rfl rfl ?_
 refine yN ?_
 dsimp only [St.put]
 refine K2 _ ?_
 refine am ?_
 refine bf rfl (by constructor) zN zS ?_
 rfl
theorem uaw (t : ai) : c8 Tryz.prog 80 [b8 t] (.v (.int .i64 (g5 t))) := by
 refine dr Tryz.func80 rfl (fun m => .v) fun G nx => ?_
 simp only [Tryz.ntmps80, List.length_cons, List.length_nil, Nat.reduceAdd, Nat.reduceSub]
 refine bi fun hlt => ?_
 dsimp only at hlt
 refine lz 0 (fun hf => ?_)
 replace hf := ui hf
 have hf0 := hf.len
 refine yS fun _ K1 => ?_
 refine yR ?_
 try dsimp only [St.put]
 refine yB rfl rfl rfl ?_
 refine yA rfl rfl ?_
 refine yN ?_
 dsimp only [St.put]
 refine K1 _ ?_
 refine uc3 ?_
 refine yS fun _ K2 => ?_
 refine yS fun _ K3 => ?_
 refine yR ?_
 refine yF rfl rfl rfl rfl ?_
 refine yL rfl rfl rfl ?_
 refine aa rfl (ck rfl rfl (List.length_map _)) ?_
 try dsimp only [St.put]
 refine ae rfl (c9 rfl rfl rfl (by decide) (by decide) zR (by decide) ?_)
 try dsimp only [St.put]
 refine ae rfl (bd rfl rfl rfl (ng _ _ [(t.length : Int)]) ?_)
 refine aa rfl (dn rfl rfl) ?_
 refine yN ?_
 dsimp only [St.put]
 refine K3 _ ?_
 refine al rfl (fun hc => ?_) (fun hc => ?_)
 ·have hin : inB t.length 1 6 = false := by rw [iz] at hc; simpa using hc
  refine yS fun _ K4 => ?_
  refine yR ?_
  refine yA rfl rfl ?_
  refine yN ?_
  dsimp only [St.put]
  refine K4 _ ?_
  refine am ?_
  refine bf rfl (by constructor) zN zS ?_
  exact vi (uef hin).symm
 have hin : inB t.length 1 6 = true := by rw [iz] at hc; simpa using hc
 refine aw ?_
 refine K2 _ ?_
 refine yS fun _ K5 => ?_
 refine yR ?_
 refine yA rfl rfl ?_
 refine yN ?_
 dsimp only [St.put]
 refine K5 _ ?_
 refine yS fun _ K6 => ?_
 refine yR ?_
 try dsimp only [St.put]
 refine ae rfl (xa (α := Int) rfl ?_)
 refine yA rfl rfl ?_
 refine yN ?_
 dsimp only [St.put]
 refine K6 _ ?_
 refine yS fun _ K7 => ?_
 refine uc4 ?_
 refine K7 _ ?_
 refine yS fun _ K8 => ?_
 refine yS fun _ K9 => ?_
 refine yR ?_
 refine yF rfl rfl rfl rfl ?_
 refine yL rfl rfl rfl ?_
 refine aa rfl (ck rfl rfl (List.length_map _)) ?_
 refine yM rfl rfl ?_
 refine yN ?_
 dsimp only [St.put]
 refine K9 _ ?_
 refine bn ?_
 refine eg 20 ?_
 simp only [dj, bq, Nat.reduceAdd, List.getD_cons_zero, List.getD_cons_succ, List.getD_nil, dw, Nat.reduceBEq, cond_true, cond_false]
 refine fg (ak G nx (bo Tryz.prog 3 0 fun _ => none)) zX ?_
 dsimp only
 refine fu (X := Nat) (fun k => k ≤ t.length ∧ (t.take k).all jj = true ∧ ((t.take k).map (·.id)).Nodup) (fun k => t.length - k) (fun k => [(2, .v (.int .i64 0)), (3, .v (.int .i64 0)), (5, .any), (6, .any), (7, .any), (8, .any), (19, .v (.int .i64 (k : Int)))]) (fun k G' => ak G nx (bo Tryz.prog 3 k (lk ((t.take k).map (·.id))))) 0 rfl ?_ ?_ ?_ ?_ ?_ ?_
 ·exact ⟨by simp, by simp, by simp⟩
 ·exact zF
 ·rw [show lk ((t.take 0).map (·.id)) = fun _ => none from uin]
  exact zX
 ·rintro k hI
  exact (by (try dsimp only); repeat' (first | exact trivial | refine ⟨?_, ?_⟩ | exact .v | exact .any | refine .elem ?_ | exact bh _ _ | exact e9 _ _ | exact dq _ _ | exact ff _ (by (try dsimp only); omega) | exact .box (by (try dsimp only); omega) | exact ed | exact bl | exact gg (rk _ _) | refine fa ?_ ?_ | exact .arr (by (try dsimp only); omega) | exact .own (by (try dsimp only); omega) | exact .map (by (try dsimp only); omega) | exact ez _ | refine ar ?_ ?_ | exact bh _ _))
 ·rintro k hI
  exact (by (repeat' (refine gt ?_ (by (try dsimp only); omega) ?_)); all_goals (first | exact ie zS | (repeat' (first | exact trivial | refine ⟨?_, ?_⟩ | exact .v | exact .any | refine .elem ?_ | exact bh _ _ | exact e9 _ _ | exact dq _ _ | exact ff _ (by (try dsimp only); omega) | exact .box (by (try dsimp only); omega) | exact ed | exact bl | exact gg (rk _ _) | refine fa ?_ ?_ | exact .arr (by (try dsimp only); omega) | exact .own (by (try dsimp only); omega) | exact .map (by (try dsimp only); omega) | exact ez _ | refine ar ?_ ?_ | exact bh _ _))))
 rintro k hI
 dsimp only at hI ⊢
 refine yS fun _ K10 => ?_
 refine yR ?_
 refine aa rfl (cr rfl rfl rfl) ?_
 refine yN ?_
 dsimp only [St.put]
 refine K10 _ ?_
 refine yS fun _ K11 => ?_
 refine al rfl (fun hc => ?_) (fun hc => ?_)
 ·replace hc := of_decide_eq_true hc
  obtain ⟨c, hx⟩ : ∃ x, t[k]? = some x := fj (by omega)
  have hf1 := hf.lines c (gr hx)
  refine aw ?_
  refine K11 _ ?_
  refine yS fun _ K12 => ?_
  refine bn ?_
  refine yS fun _ K13 => ?_
  refine yR ?_
  refine aa rfl (b7 rfl rfl rfl rfl (cm (by assumption)) (Enc.len _)) ?_
  refine yE rfl rfl rfl ?_
  try dsimp only [St.put]
  refine ae rfl (bp rfl ?_)
  try dsimp only [St.put]
  refine ae rfl (ay rfl rfl rfl zG rfl rfl (by rfl) ?_)
  refine yN ?_
  dsimp only [St.put]
  refine K13 _ ?_
  refine dg (i := 6) rfl zG (by first | exact List.cons_ne_nil _ _ | (simp; done) | (simp [putAt]; done)) ?_
  dsimp only
  refine yS fun _ K14 => ?_
  refine eg 20 ?_
  simp only [dj, bq, Nat.reduceAdd, List.getD_cons_zero, List.getD_cons_succ, List.getD_nil, dw, Nat.reduceBEq, cond_true, cond_false]
  refine mi (X := Bool) (fun b => (b = true → inB c.id 0 9999 = false ∨ c.id ∈ (t.take k).map (·.id) ∨ inB c.lines.length 1 10 = false) ∧ (b = false → inB c.id 0 9999 = true ∧ ¬ c.id ∈ (t.take k).map (·.id) ∧ inB c.lines.length 1 10 = true)) (fun b => [(41, .v (.bool b))]) (fun b G' => G') rfl ?_ (fun _ _ _ _ h => .inl h) ?_ ?_
  ·rintro b hI
   exact (by (try dsimp only); repeat' (first | exact trivial | refine ⟨?_, ?_⟩ | exact .v | exact .any | refine .elem ?_ | exact bh _ _ | exact e9 _ _ | exact dq _ _ | exact ff _ (by (try dsimp only); omega) | exact .box (by (try dsimp only); omega) | exact ed | exact bl | exact gg (rk _ _) | refine fa ?_ ?_ | exact .arr (by (try dsimp only); omega) | exact .own (by (try dsimp only); omega) | exact .map (by (try dsimp only); omega) | exact ez _ | refine ar ?_ ?_ | exact bh _ _))
  ·refine yR ?_
   refine yF rfl rfl rfl rfl ?_
   refine yL rfl rfl rfl ?_
   try dsimp only [St.put]
   refine ae rfl (c9 rfl rfl rfl (by decide) (by decide) zR (by decide) ?_)
   try dsimp only [St.put]
   refine ae rfl (bd rfl rfl rfl (ng _ _ [c.id]) ?_)
   refine aa rfl (dn rfl rfl) ?_
   refine yM rfl rfl ?_
   refine e7 (fun hs => ?_) (fun hs => ?_)
   ·have h5 : inB c.id 0 9999 = false := by rw [iz] at hs; simpa using hs
    refine yK rfl ?_
    refine yK rfl ?_
    refine yK rfl ?_
    refine yK rfl ?_
    refine aa rfl (bg rfl rfl (by constructor)) ?_
    refine yM rfl rfl ?_
    refine yK rfl ?_
    refine yK rfl ?_
    refine yK rfl ?_
    refine yK rfl ?_
    refine yK rfl ?_
    refine yK rfl ?_
    refine aa rfl (bg rfl rfl (by constructor)) ?_
    refine yN ?_
    dsimp only [St.put]
    refine ⟨_, ?_, ⟨⟨rfl, rfl⟩, zF, zB, zN, zX⟩⟩
    first
     | (exact ⟨fun _ => .inl h5, fun h => by cases h⟩)
     | (exact ⟨fun _ => .inr (.inl h11), fun h => by cases h⟩)
     | (rw [iz]; exact ⟨fun h => .inr (.inr (by simpa using h)), fun h => ⟨h5, h11, by simpa using h⟩⟩)
   have h5 : inB c.id 0 9999 = true := by rw [iz] at hs; simpa using hs
   refine yM rfl rfl ?_
   refine yF rfl rfl rfl rfl ?_
   refine yL rfl rfl rfl ?_
   try dsimp only [St.put]
   refine af rfl (uv c.id rfl rfl zG trivial rfl (uio _ _)) ?_
   refine aa rfl (cd rfl rfl (by constructor)) ?_
   refine yM rfl rfl ?_
   refine e7 (fun hs => ?_) (fun hs => ?_)
   ·have h11 := of_decide_eq_true hs
    refine yK rfl ?_
    refine yK rfl ?_
    refine yK rfl ?_
    refine yK rfl ?_
    refine yK rfl ?_
    refine yK rfl ?_
    refine aa rfl (bg rfl rfl (by constructor)) ?_
    refine yN ?_
    dsimp only [St.put]
    refine ⟨_, ?_, ⟨⟨rfl, rfl⟩, zF, zB, zN, zX⟩⟩
    first
     | (exact ⟨fun _ => .inl h5, fun h => by cases h⟩)
     | (exact ⟨fun _ => .inr (.inl h11), fun h => by cases h⟩)
     | (rw [iz]; exact ⟨fun h => .inr (.inr (by simpa using h)), fun h => ⟨h5, h11, by simpa using h⟩⟩)
   have h11 := of_decide_eq_false hs
   refine yF rfl rfl rfl rfl ?_
   refine yL rfl rfl rfl ?_
   refine aa rfl (ck rfl rfl (List.length_map _)) ?_
   try dsimp only [St.put]
   refine ae rfl (c9 rfl rfl rfl (by decide) (by decide) zR (by decide) ?_)
   try dsimp only [St.put]
   refine ae rfl (bd rfl rfl rfl (ng _ _ [(c.lines.length : Int)]) ?_)
   refine aa rfl (dn rfl rfl) ?_
   refine aa rfl (cd rfl rfl (by constructor)) ?_
   refine yN ?_
   dsimp only [St.put]
   refine ⟨_, ?_, ⟨⟨rfl, rfl⟩, zF, zB, zN, zX⟩⟩
   first
    | (exact ⟨fun _ => .inl h5, fun h => by cases h⟩)
    | (exact ⟨fun _ => .inr (.inl h11), fun h => by cases h⟩)
    | (rw [iz]; exact ⟨fun h => .inr (.inr (by simpa using h)), fun h => ⟨h5, h11, by simpa using h⟩⟩)
  rintro b hst
  dsimp only at hst ⊢
  refine al rfl (fun hc => ?_) (fun hc => ?_)
  ·replace hst := hst.1 hc
   refine yS fun _ K16 => ?_
   refine yR ?_
   refine yA rfl rfl ?_
   refine yN ?_
   dsimp only [St.put]
   refine K16 _ ?_
   refine am ?_
   refine bf rfl (by constructor) zN zS ?_
   exact vi (by
    rcases hst with h | h | h
    ·exact (uj (ku hx (by simp [jj, h]))).symm
    ·refine (uee fun hn => ?_).symm
     have h2 : ((t.take (k + 1)).map (·.id)).Nodup := hn.sublist (List.Sublist.map _ (List.take_sublist _ _))
     rw [s0 (f := (·.id)) hx, List.nodup_append] at h2
     exact h2.2.2 _ h _ (List.mem_singleton.2 rfl) rfl
    exact (uj (ku hx (by simp [jj, h]))).symm)
  replace hst := hst.2 hc
  refine aw ?_
  refine K14 _ ?_
  refine yS fun _ K17 => ?_
  refine yR ?_
  refine yM rfl rfl ?_
  refine yF rfl rfl rfl rfl ?_
  refine yL rfl rfl rfl ?_
  try dsimp only [St.put]
  refine ae rfl (w9 (c.id) rfl rfl rfl zG rfl (uim hx) ?_)
  refine yN ?_
  dsimp only [St.put]
  refine K17 _ ?_
  refine yS fun _ K18 => ?_
  refine yR ?_
  refine yF rfl rfl rfl rfl ?_
  refine yL rfl rfl rfl ?_
  refine aa rfl (ck rfl rfl (List.length_map _)) ?_
  refine yM rfl rfl ?_
  refine yN ?_
  dsimp only [St.put]
  refine K18 _ ?_
  refine bn ?_
  refine eg 49 ?_
  simp only [dj, bq, Nat.reduceAdd, List.getD_cons_zero, List.getD_cons_succ, List.getD_nil, dw, Nat.reduceBEq, cond_true, cond_false]
  refine fg (ak G nx (bo Tryz.prog 3 (k + 1) (lk ((t.take (k + 1)).map (·.id))))) zX ?_
  dsimp only
  refine fu (X := Nat) (fun n => n ≤ c.lines.length ∧ (c.lines.take n).all km = true) (fun n => c.lines.length - n) (fun n => [(8, .any), (48, .v (.int .i64 (n : Int)))]) (fun n G' => G') 0 rfl ?_ ?_ (fun _ _ h => h) ?_ ?_ ?_
  ·exact ⟨by simp, by simp⟩
  ·exact zF
  ·rintro n hI
   exact (by (try dsimp only); repeat' (first | exact trivial | refine ⟨?_, ?_⟩ | exact .v | exact .any | refine .elem ?_ | exact bh _ _ | exact e9 _ _ | exact dq _ _ | exact ff _ (by (try dsimp only); omega) | exact .box (by (try dsimp only); omega) | exact ed | exact bl | exact gg (rk _ _) | refine fa ?_ ?_ | exact .arr (by (try dsimp only); omega) | exact .own (by (try dsimp only); omega) | exact .map (by (try dsimp only); omega) | exact ez _ | refine ar ?_ ?_ | exact bh _ _))
  ·exact fun _ _ _ _ h => .inl h
  rintro n hJ
  dsimp only at hJ ⊢
  refine yS fun _ K19 => ?_
  refine yR ?_
  refine aa rfl (cr rfl rfl rfl) ?_
  refine yN ?_
  dsimp only [St.put]
  refine K19 _ ?_
  refine yS fun _ K20 => ?_
  refine al rfl (fun hc => ?_) (fun hc => ?_)
  ·replace hc := of_decide_eq_true hc
   obtain ⟨l, hl⟩ : ∃ x, c.lines[n]? = some x := fj (by omega)
   have hf2 := hf.words c (gr hx) l (gr hl)
   refine aw ?_
   refine K20 _ ?_
   refine yS fun _ K21 => ?_
   refine bn ?_
   refine yS fun _ K22 => ?_
   refine yR ?_
   refine aa rfl (b7 rfl rfl rfl rfl (cm (by assumption)) (Enc.len _)) ?_
   refine yL rfl rfl rfl ?_
   refine yA rfl rfl ?_
   refine yN ?_
   dsimp only [St.put]
   refine K22 _ ?_
   refine eg 49 ?_
   simp only [dj, bq, Nat.reduceAdd, List.getD_cons_zero, List.getD_cons_succ, List.getD_nil, dw, Nat.reduceBEq, cond_true, cond_false]
   refine mi (X := Bool) (fun b => b = !km l) (fun b => [(60, .v (.bool b))]) (fun b G' => G') rfl ?_ (fun _ _ _ _ h => .inl h) ?_ ?_
   ·rintro b hI
    exact (by (try dsimp only); repeat' (first | exact trivial | refine ⟨?_, ?_⟩ | exact .v | exact .any | refine .elem ?_ | exact bh _ _ | exact e9 _ _ | exact dq _ _ | exact ff _ (by (try dsimp only); omega) | exact .box (by (try dsimp only); omega) | exact ed | exact bl | exact gg (rk _ _) | refine fa ?_ ?_ | exact .arr (by (try dsimp only); omega) | exact .own (by (try dsimp only); omega) | exact .map (by (try dsimp only); omega) | exact ez _ | refine ar ?_ ?_ | exact bh _ _))
   ·refine yR ?_
    refine yM rfl rfl ?_
    refine aa rfl (ck rfl rfl (List.length_map _)) ?_
    try dsimp only [St.put]
    refine ae rfl (c9 rfl rfl rfl (by decide) (by decide) zR (by decide) ?_)
    try dsimp only [St.put]
    refine ae rfl (bd rfl rfl rfl (ng _ _ [(l.length : Int)]) ?_)
    refine aa rfl (dn rfl rfl) ?_
    refine yM rfl rfl ?_
    refine e7 (fun hs => ?_) (fun hs => ?_)
    ·have h5 : inB l.length 1 10 = false := by rw [iz] at hs; simpa using hs
     refine yK rfl ?_
     refine yK rfl ?_
     refine aa rfl (bg rfl rfl (by constructor)) ?_
     refine yN ?_
     dsimp only [St.put]
     refine ⟨_, ?_, ⟨⟨rfl, rfl⟩, zF, zB, zN, zX⟩⟩
     rw [uas, h5]
     simp
    have h5 : inB l.length 1 10 = true := by rw [iz] at hs; simpa using hs
    refine yM rfl rfl ?_
    try dsimp only [St.put]
    refine ae rfl (bd rfl rfl rfl (um4 l (fun s => !ky s) _ _ fun s _ => uhx s) ?_)
    refine aa rfl (cd rfl rfl (by constructor)) ?_
    refine yN ?_
    dsimp only [St.put]
    refine ⟨_, ?_, ⟨⟨rfl, rfl⟩, zF, zB, zN, zX⟩⟩
    rw [uas, h5]
    simp
   rintro b hst2
   dsimp only at hst2 ⊢
   refine al rfl (fun hc => ?_) (fun hc => ?_)
   ·have hln : km l = false := by rw [hc] at hst2; simpa using hst2.symm
    have her : g5 t = 10 := uj (ku hx (by simp [jj, ku hl hln]))
    refine yS fun _ K24 => ?_
    refine yR ?_
    refine yA rfl rfl ?_
    refine yN ?_
    dsimp only [St.put]
    refine K24 _ ?_
    refine ey ?_
    refine K8 _ ?_
    refine yS fun _ K25 => ?_
    refine yR ?_
    refine yM rfl rfl ?_
    refine yA rfl rfl ?_
    refine yN ?_
    dsimp only [St.put]
    refine K25 _ ?_
    refine am ?_
    refine bf rfl (by constructor) zN zS ?_
    exact vi her.symm
   have hln : km l = true := by rw [hc] at hst2; simpa using hst2.symm
   refine aw ?_
   refine K21 _ ?_
   refine yR ?_
   refine aa rfl (bw rfl rfl rfl (by omega)) ?_
   refine yM rfl rfl ?_
   refine yN ?_
   dsimp only [St.put]
   exact ⟨n + 1, by omega, ⟨by omega, by rw [pi hl, hJ.2, hln]; rfl⟩, ⟨⟨rfl, rfl⟩, zF, zB, zN, zX⟩⟩
  try replace hc := of_decide_eq_false hc
  refine ey ?_
  refine K12 _ ?_
  refine yR ?_
  refine aa rfl (bw rfl rfl rfl (by omega)) ?_
  refine yM rfl rfl ?_
  refine yN ?_
  dsimp only [St.put]
  exact ⟨k + 1, by omega, ⟨by omega, by
    rw [pi hx, hI.2.1]
    have h1 := hJ.2
    rw [im (by omega)] at h1
    simp [jj, hst.1, hst.2.2, h1], by
    rw [s0 (f := (·.id)) hx]
    exact vd hI.2.2 hst.2.1⟩, ⟨⟨rfl, rfl⟩, zF, zB, zN, zX⟩⟩
 have hk : t.length ≤ k := by have := of_decide_eq_false hc; omega
 have her : g5 t = 0 := by
  have h1 := hI.2
  rw [im hk] at h1
  simp [g5, ct, hin, h1.1, h1.2]
 refine ey ?_
 refine K8 _ ?_
 refine yS fun _ K26 => ?_
 refine yR ?_
 refine yM rfl rfl ?_
 refine yA rfl rfl ?_
 refine yN ?_
 dsimp only [St.put]
 refine K26 _ ?_
 refine am ?_
 refine bf rfl (by constructor) zN zS ?_
 exact vi her.symm
end Go.Proofs.YtjjklfgpffgnfaaGreatDoor
