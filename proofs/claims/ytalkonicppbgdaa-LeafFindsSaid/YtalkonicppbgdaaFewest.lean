/-
  Contract of leaf.readings' function value fewest.
-/
import Derived.Test.YtalkonicppbgdaaNext
namespace Go.Proofs.Ytalkonicppbgdaa
open Go.RowKit Go.PB

set_option maxHeartbeats 1000000 in
theorem fewest_any {W0 : World} {a b : List ByteArray} {p q : Option Addr} {c d : Nat} {A B W M K F N : Nat} (ha : a.length ≤ 1000) (hb : b.length ≤ 1000)
    (hra : Rd W0 [.slice p a.length c] a) (hrb : Rd W0 [.slice q b.length d] b) : ∀ (n i k : Nat) (w : World), (a.length - i) + (b.length - k) = n → i ≤ a.length → k ≤ b.length →
    Env W0 a b (.slice p a.length c) (.slice q b.length d) A B W M K F N w →
    Calls Try.prog 33 #[.int .i64 i, .int .i64 k, .pointer (some ⟨K, 0, none⟩), .pointer (some ⟨A, 0, none⟩), .pointer (some ⟨B, 0, none⟩), .pointer (some ⟨F, 0, none⟩), .pointer (some ⟨N, 0, none⟩)] w fun e w' =>
      e = .returned (.int .i64 (fewAt a b i k)) ∧ Left a b M w w' := by
  intro n
  induction n using Nat.strongRecOn with
  | _ n ih =>
    intro i k w hn hi hk hE
    have IH := Lib.hid ih; clear ih
    obtain ⟨cA, cB, cK, cF, cN, lA, lB, lW, lK, lF, lN⟩ := hE.facts
    obtain ⟨f, hM, hm⟩ := hE.memo
    have HM := Lib.hid hm; clear hm
    have hml := hra.bd; have hml' := hrb.bd
    obtain ⟨kl, hkey⟩ := pairKey (i := (i : Int)) (k := (k : Int)) (I64.of (by omega)) (I64.of (by omega))
    have hlk := hM.lookupOk pairLaw Try.underlying71 (Try.zeroValue3 w) hkey
    cases hfk : f (.agg #[.int .i64 i, .int .i64 k]) with
    | some v =>
      have hv := HM.out i k v hfk
      subst hv
      rw [hfk] at hlk
      simp only [Option.getD_some, Option.isSome_some] at hlk
      go_enter Try.func33, Try.ntmps33
      go_wp2_with (fail)
      go_ret
      exact ⟨rfl, But.refl M w, f, hM, HM.out⟩
    | none =>
      rw [hfk] at hlk
      simp only [Option.getD_none, Option.isSome_none] at hlk
      clear hfk
      cases hmo : moreW a b i k
      · have he : i = a.length ∧ k = b.length := by simp [moreW] at hmo; omega
        have e0 : fewAt a b i k = 0 := by rw [fewAt_end (by omega)]; omega
        have E0 := Lib.hid e0; clear e0 hmo
        obtain ⟨w3, hup, hM3, hG3⟩ := hM.update pairLaw Try.underlying71 hkey (.int .i64 0)
        have h1 : ((i : Int) == (a.length : Int)) = true := by rw [beq_iff_eq]; omega
        have h2 : ((k : Int) == (b.length : Int)) = true := by rw [beq_iff_eq]; omega
        have HE := Lib.hid he; clear he
        go_enter Try.func33, Try.ntmps33
        go_wp2_with (fail)
        go_ret
        exact ⟨ret_int (by rw [E0.out]; rfl), (But.refl M w).grown hG3, _, hM3, by have := HM.out.put i k; rw [E0.out] at this; exact this⟩
      · cases hsa : sameW a b i k
        · have hfew := bestW_few hsa hmo hi hk
          have hbd : (bestW a b i k).2 ≤ 3000 := by have := fewAt_le a b i k; omega
          have HFEW := Lib.hid hfew; clear hfew
          by_cases hi1 : i < a.length
          · by_cases hk1 : k < b.length
            · obtain ⟨x, hx⟩ := some_of_lt hi1
              obtain ⟨y, hy⟩ := some_of_lt hk1
              rw [sameW_some hx hy] at hsa
              obtain ⟨b1, o1, rfl, hb1, d1, _⟩ := hra.str hx
              obtain ⟨b2, o2, rfl, hb2, d2, _⟩ := hrb.str hy
              obtain ⟨hcW, hfW⟩ := bcell hE.below
              have e1 : w.cell? ⟨b1, o1 + i, none⟩ = some (.string x) := (hcW _ _ hb1).trans d1
              have e2 : w.cell? ⟨b2, o2 + k, none⟩ = some (.string y) := (hcW _ _ hb2).trans d2
              have HX := Lib.hid hx; have HY := Lib.hid hy; clear hx hy hcW hfW d1 d2
              have hxy : (x.toList == y.toList) = false := by
                rw [beq_eq_false_iff_ne]; intro h; rw [toList_inj h] at hsa; simp [eqB] at hsa
              have h1 : ((i : Int) == (a.length : Int)) = false := by rw [beq_eq_false_iff_ne]; omega
              go_enter Try.func33, Try.ntmps33
              go_wp2_with (fail)
              go_quiet (fail)
              go_wp2_with (fail)
              refine Calls.mono (next_any ha hb i k _ (hE.keep (by repeat (first | exact Below.refl _ _ | assumption | refine Below.drew ?_ | refine below_drewN ?_ _ | refine Below.alloc ?_ (by first | exact Nat.le_refl _ | omega | (simp; done) | (simp; omega) | (simp at *; omega)) _ | refine Below.setCell ?_ (by first | exact Nat.le_refl _ | omega | (simp; done) | (simp; omega) | (simp at *; omega)) _ | refine Below.grown ?_ (by assumption) (by first | exact Nat.le_refl _ | omega | (simp; done) | (simp; omega) | (simp at *; omega)) (by first | assumption | (intro _ hk; simp [Value.ownBlock] at hk; omega))))) hi hk (fun i' k' w' h1 h2 h3 hE' => IH.out _ (by omega) i' k' w' rfl h1 h2 hE')) ?_
              rintro e w2 ⟨rfl, hB2, f2, hM2, hm2⟩
              have HM2 := Lib.hid hm2; clear hm2
              have hs2 := hB2.size
              simp only [World.heap_drewN] at hs2
              have lK2 : K < w2.heap.size := by omega
              have cK2 := hB2.cell (p := ⟨K, 0, none⟩) (v := .map (some M)) cK hE.hK.2
              have hM2' := hM2.alloc (.cells #[.int .u8 (bestW a b i k).1.kind, .int .i64 (bestW a b i k).1.one, .int .i64 (bestW a b i k).1.two] 69)
              obtain ⟨w3, hup, hM3, hG3⟩ := hM2'.update pairLaw Try.underlying71 hkey (.int .i64 ((bestW a b i k).2 + 1))
              go_wp2_with (fail)
              go_ret
              exact ⟨ret_int (by rw [HFEW.out]; simp), ((((But.refl M w).drewN _).trans hB2).alloc _).grown hG3, _, hM3, by have := HM2.out.put i k; rw [HFEW.out] at this; simpa using this⟩
            · have h1 : ((i : Int) == (a.length : Int)) = false := by rw [beq_eq_false_iff_ne]; omega
              go_enter Try.func33, Try.ntmps33
              go_wp2_with (fail)
              go_quiet (fail)
              go_wp2_with (fail)
              refine Calls.mono (next_any ha hb i k _ (hE.keep (by repeat (first | exact Below.refl _ _ | assumption | refine Below.drew ?_ | refine below_drewN ?_ _ | refine Below.alloc ?_ (by first | exact Nat.le_refl _ | omega | (simp; done) | (simp; omega) | (simp at *; omega)) _ | refine Below.setCell ?_ (by first | exact Nat.le_refl _ | omega | (simp; done) | (simp; omega) | (simp at *; omega)) _ | refine Below.grown ?_ (by assumption) (by first | exact Nat.le_refl _ | omega | (simp; done) | (simp; omega) | (simp at *; omega)) (by first | assumption | (intro _ hk; simp [Value.ownBlock] at hk; omega))))) hi hk (fun i' k' w' h1 h2 h3 hE' => IH.out _ (by omega) i' k' w' rfl h1 h2 hE')) ?_
              rintro e w2 ⟨rfl, hB2, f2, hM2, hm2⟩
              have HM2 := Lib.hid hm2; clear hm2
              have hs2 := hB2.size
              simp only [World.heap_drewN] at hs2
              have lK2 : K < w2.heap.size := by omega
              have cK2 := hB2.cell (p := ⟨K, 0, none⟩) (v := .map (some M)) cK hE.hK.2
              have hM2' := hM2.alloc (.cells #[.int .u8 (bestW a b i k).1.kind, .int .i64 (bestW a b i k).1.one, .int .i64 (bestW a b i k).1.two] 69)
              obtain ⟨w3, hup, hM3, hG3⟩ := hM2'.update pairLaw Try.underlying71 hkey (.int .i64 ((bestW a b i k).2 + 1))
              go_wp2_with (fail)
              go_ret
              exact ⟨ret_int (by rw [HFEW.out]; simp), ((((But.refl M w).drewN _).trans hB2).alloc _).grown hG3, _, hM3, by have := HM2.out.put i k; rw [HFEW.out] at this; simpa using this⟩
          · have h1 : ((i : Int) == (a.length : Int)) = true := by rw [beq_iff_eq]; omega
            have hk1 : k < b.length := by simp [moreW] at hmo; omega
            have h2 : ((k : Int) == (b.length : Int)) = false := by rw [beq_eq_false_iff_ne]; omega
            go_enter Try.func33, Try.ntmps33
            go_wp2_with (fail)
            go_quiet (fail)
            go_wp2_with (fail)
            refine Calls.mono (next_any ha hb i k _ (hE.keep (by repeat (first | exact Below.refl _ _ | assumption | refine Below.drew ?_ | refine below_drewN ?_ _ | refine Below.alloc ?_ (by first | exact Nat.le_refl _ | omega | (simp; done) | (simp; omega) | (simp at *; omega)) _ | refine Below.setCell ?_ (by first | exact Nat.le_refl _ | omega | (simp; done) | (simp; omega) | (simp at *; omega)) _ | refine Below.grown ?_ (by assumption) (by first | exact Nat.le_refl _ | omega | (simp; done) | (simp; omega) | (simp at *; omega)) (by first | assumption | (intro _ hk; simp [Value.ownBlock] at hk; omega))))) hi hk (fun i' k' w' h1 h2 h3 hE' => IH.out _ (by omega) i' k' w' rfl h1 h2 hE')) ?_
            rintro e w2 ⟨rfl, hB2, f2, hM2, hm2⟩
            have HM2 := Lib.hid hm2; clear hm2
            have hs2 := hB2.size
            simp only [World.heap_drewN] at hs2
            have lK2 : K < w2.heap.size := by omega
            have cK2 := hB2.cell (p := ⟨K, 0, none⟩) (v := .map (some M)) cK hE.hK.2
            have hM2' := hM2.alloc (.cells #[.int .u8 (bestW a b i k).1.kind, .int .i64 (bestW a b i k).1.one, .int .i64 (bestW a b i k).1.two] 69)
            obtain ⟨w3, hup, hM3, hG3⟩ := hM2'.update pairLaw Try.underlying71 hkey (.int .i64 ((bestW a b i k).2 + 1))
            go_wp2_with (fail)
            go_ret
            exact ⟨ret_int (by rw [HFEW.out]; simp), ((((But.refl M w).drewN _).trans hB2).alloc _).grown hG3, _, hM3, by have := HM2.out.put i k; rw [HFEW.out] at this; simpa using this⟩
        · have hb1 : i < a.length ∧ k < b.length := by simp [sameW] at hsa; exact hsa.1
          obtain ⟨hi1, hk1⟩ := hb1
          obtain ⟨x, hx⟩ := some_of_lt hi1
          obtain ⟨y, hy⟩ := some_of_lt hk1
          rw [sameW_some hx hy] at hsa
          have hxy := of_eqB hsa
          subst hxy
          have hfew := fewAt_same hx hy
          have HFEW := Lib.hid hfew; clear hfew
          obtain ⟨b1, o1, rfl, hb1, d1, _⟩ := hra.str hx
          obtain ⟨b2, o2, rfl, hb2, d2, _⟩ := hrb.str hy
          obtain ⟨hcW, hfW⟩ := bcell hE.below
          have e1 : w.cell? ⟨b1, o1 + i, none⟩ = some (.string x) := (hcW _ _ hb1).trans d1
          have e2 : w.cell? ⟨b2, o2 + k, none⟩ = some (.string x) := (hcW _ _ hb2).trans d2
          have HX := Lib.hid hx; have HY := Lib.hid hy; clear hx hy hcW hfW d1 d2
          have h1 : ((i : Int) == (a.length : Int)) = false := by rw [beq_eq_false_iff_ne]; omega
          go_enter Try.func33, Try.ntmps33
          go_wp2_with (fail)
          go_quiet (fail)
          go_wp2_with (fail)
          have hcall := IH.out _ (by omega) (i + 1) (k + 1) _ rfl (by omega) (by omega) (hE.keep (w' := w.drewN nq) (by repeat (first | exact Below.refl _ _ | assumption | refine Below.drew ?_ | refine below_drewN ?_ _ | refine Below.alloc ?_ (by first | exact Nat.le_refl _ | omega | (simp; done) | (simp; omega) | (simp at *; omega)) _ | refine Below.setCell ?_ (by first | exact Nat.le_refl _ | omega | (simp; done) | (simp; omega) | (simp at *; omega)) _ | refine Below.grown ?_ (by assumption) (by first | exact Nat.le_refl _ | omega | (simp; done) | (simp; omega) | (simp at *; omega)) (by first | assumption | (intro _ hk; simp [Value.ownBlock] at hk; omega)))))
          simp only [Int.natCast_add, Int.cast_ofNat_Int] at hcall
          refine Calls.mono hcall ?_
          clear hcall
          rintro e w2 ⟨rfl, hB2, f2, hM2, hm2⟩
          have HM2 := Lib.hid hm2; clear hm2
          have hs2 := hB2.size
          simp only [World.heap_drewN] at hs2
          have lK2 : K < w2.heap.size := by omega
          have cK2 := hB2.cell (p := ⟨K, 0, none⟩) (v := .map (some M)) cK hE.hK.2
          obtain ⟨w3, hup, hM3, hG3⟩ := hM2.update pairLaw Try.underlying71 hkey (.int .i64 (fewAt a b (i + 1) (k + 1)))
          go_wp2_with (fail)
          go_ret
          exact ⟨ret_int (by rw [HFEW.out]), (((But.refl M w).drewN _).trans hB2).grown hG3, _, hM3, by have := HM2.out.put i k; rw [HFEW.out] at this; exact this⟩
end Go.Proofs.Ytalkonicppbgdaa
