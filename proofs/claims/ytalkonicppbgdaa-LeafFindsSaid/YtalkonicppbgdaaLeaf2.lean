/-
  Contract of leaf.Check.
-/
import Derived.Test.YtalkonicppbgdaaLeaf1
import Derived.Test.YtalkonicppbgdaaMap
import Derived.Maps.Own
import Derived.WalkMore
namespace Go.Proofs.Ytalkonicppbgdaa
open Go.RowKit Go.PB

theorem keyInt : Go.Maps.Keyed Try.prog 3 := Go.Maps.int_keyed Try.underlying3

/-- the map of the numbers that were met -/
def IdsF (xs : List Int) (f : Value → Option Value) : Prop := ∀ n : Int, f (.int .i64 n) = if n ∈ xs then some (.bool true) else none
theorem IdsF.nil : IdsF [] (fun _ => none) := fun n => by simp
theorem IdsF.put {xs : List Int} {f : Value → Option Value} (h : IdsF xs f) (n : Int) : IdsF (xs ++ [n]) (mput f (.int .i64 n) (.bool true)) := by
  intro m
  by_cases hm : m = n
  · subst hm; rw [mput_same]; simp
  · rw [mput_other _ _ _ (by simpa using hm), h m]; simp [hm]
theorem IdsF.get {xs : List Int} {f : Value → Option Value} (h : IdsF xs f) (n : Int) {b : Bool} (hb : xs.contains n = b) : (f (.int .i64 n)).getD (.bool false) = .bool b := by
  rw [h n]
  subst hb
  by_cases hm : n ∈ xs <;> simp [hm]

set_option maxRecDepth 100000 in
set_option maxHeartbeats 1000000 in
/-- the error of a text, as a number -/
theorem Check_any (t : TextD) (v : Value) (w : World) (hr : Rd w [v] t) :
    Calls Try.prog 19 #[.agg #[v]] w fun e w' => e = .returned (.int .i64 (textE t)) ∧ Below w.heap.size w w' := by
  obtain ⟨a, cap, rfl, m1, m2⟩ := rd_open hr
  have hmm := @run_makeMap Try.prog
  have HS := Lib.hid (I64.of (n := (t.length : Int)) (by omega))
  cases h6 : inB t.length 1 6
  · have H6 := Lib.hid h6; clear h6
    go_enter Try.func19, Try.ntmps19
    go_wp2_with (go_step3)
    refine Calls.mono (in_at t.length 1 6 _ _ (by simp) HS.out) ?_
    rintro e w1 ⟨rfl, hB1⟩
    rw [H6.out]
    have hz1 := hB1.size
    go_wp2_with (go_step3)
    try simp only [Exit.noGoto_ret]
    go_ret
    exact ⟨ret_int (textE_no (by simp [textB, H6.out])).symm, Below.trans (by repeat (first | exact Below.refl _ _ | assumption | refine Below.drew ?_ | refine below_drewN ?_ _ | refine Below.alloc ?_ (by first | exact Nat.le_refl _ | omega | (simp; done) | (simp; omega) | (simp at *; omega)) _ | refine Below.setCell ?_ (by first | exact Nat.le_refl _ | omega | (simp; done) | (simp; omega) | (simp at *; omega)) _ | refine Below.grown ?_ (by assumption) (by first | exact Nat.le_refl _ | omega | (simp; done) | (simp; omega) | (simp at *; omega)) (by first | assumption | (intro _ hk; simp [Value.ownBlock] at hk; omega)))) (hB1.mono (by simp))⟩
  · have H6 := Lib.hid h6; clear h6
    go_enter Try.func19, Try.ntmps19
    go_wp2_with (go_step3)
    refine Calls.mono (in_at t.length 1 6 _ _ (by simp) HS.out) ?_
    rintro e w1 ⟨rfl, hB1⟩
    rw [H6.out]
    have hz1 := hB1.size
    have hW1 : Below w.heap.size w w1 := Below.trans (by repeat (first | exact Below.refl _ _ | assumption | refine Below.drew ?_ | refine below_drewN ?_ _ | refine Below.alloc ?_ (by first | exact Nat.le_refl _ | omega | (simp; done) | (simp; omega) | (simp at *; omega)) _ | refine Below.setCell ?_ (by first | exact Nat.le_refl _ | omega | (simp; done) | (simp; omega) | (simp at *; omega)) _ | refine Below.grown ?_ (by assumption) (by first | exact Nat.le_refl _ | omega | (simp; done) | (simp; omega) | (simp at *; omega)) (by first | assumption | (intro _ hk; simp [Value.ownBlock] at hk; omega)))) (hB1.mono (by simp))
    obtain ⟨hc1, hf1⟩ := bcell hB1
    have hl1 : w.heap.size < w1.heap.size := (by first | exact Nat.le_refl _ | omega | (simp; done) | (simp; omega) | (simp at *; omega))
    go_wp2_with (go_step3)
    go_loopg [3, 19] (t.length + 1) (fun g e0 i wr => ∃ k : Nat, k ≤ t.length ∧ g = t.length + 1 - k ∧ i = .int .i64 k ∧ e0 = .int .i64 0 ∧ (t.take k).all chapB = true ∧ ((t.take k).map (·.id)).Nodup ∧ Below w1.heap.size w1 wr ∧ w1.heap.size < wr.heap.size ∧ ∃ f, MapF Try.prog 3 wr w1.heap.size f ∧ IdsF ((t.take k).map (·.id)) f)
    case atStart => exact ⟨0, Nat.zero_le _, by simp, rfl, rfl, by simp, by simp, (by repeat (first | exact Below.refl _ _ | assumption | refine Below.drew ?_ | refine below_drewN ?_ _ | refine Below.alloc ?_ (by first | exact Nat.le_refl _ | omega | (simp; done) | (simp; omega) | (simp at *; omega)) _ | refine Below.setCell ?_ (by first | exact Nat.le_refl _ | omega | (simp; done) | (simp; omega) | (simp at *; omega)) _ | refine Below.grown ?_ (by assumption) (by first | exact Nat.le_refl _ | omega | (simp; done) | (simp; omega) | (simp at *; omega)) (by first | assumption | (intro _ hk; simp [Value.ownBlock] at hk; omega)))), by simp, _, MapF.nil _ _ _, IdsF.nil⟩
    case round =>
      obtain ⟨w2, rfl⟩ : ∃ x : World, x = wr := ⟨_, rfl⟩
      obtain ⟨k, hk, rfl, rfl, rfl, hp, hnd, hB2, hz2, f, hM, hI⟩ := hrel
      have HP := Lib.hid hp; have HND := Lib.hid hnd; have HI := Lib.hid hI; clear hp hnd hI
      by_cases hlt : k < t.length
      · obtain ⟨c, hx⟩ := some_of_lt hlt
        have hW2 : Below w.heap.size w w2 := hW1.trans (hB2.mono hW1.size)
        obtain ⟨hc2, hf2⟩ := bcell hW2
        obtain ⟨b, o, rfl, hb, c0, hwc, pl, cl, c1, hrl⟩ := hr.chap hx
        have HX := Lib.hid hx; clear hx
        have hml := hrl.bd
        have hwl := I64.of (n := (c.lines.length : Int)) (by omega)
        cases hid' : inB c.id 0 9999
        · go_wp2_with (go_step3)
          refine Calls.mono (in_at c.id 0 9999 _ _ (by simp) hwc) ?_
          rintro e w3 ⟨rfl, hB3⟩
          rw [hid']
          have hz3 := hB3.size
          obtain ⟨hc3, hf3⟩ := bcell hB3
          go_wp2_with (go_step3)
          try simp only [Exit.noGoto_ret]
          go_ret
          exact ⟨ret_int (textE_no (by
            have : t.all chapB = false := all_false_of HX.out (by simp [chapB, hid'])
            simp [textB, this])).symm, hW1.trans ((hB2.trans (Below.trans (by repeat (first | exact Below.refl _ _ | assumption | refine Below.drew ?_ | refine below_drewN ?_ _ | refine Below.alloc ?_ (by first | exact Nat.le_refl _ | omega | (simp; done) | (simp; omega) | (simp at *; omega)) _ | refine Below.setCell ?_ (by first | exact Nat.le_refl _ | omega | (simp; done) | (simp; omega) | (simp at *; omega)) _ | refine Below.grown ?_ (by assumption) (by first | exact Nat.le_refl _ | omega | (simp; done) | (simp; omega) | (simp at *; omega)) (by first | assumption | (intro _ hk; simp [Value.ownBlock] at hk; omega)))) (hB3.mono (by first | exact Nat.le_refl _ | omega | (simp; done) | (simp; omega) | (simp at *; omega))))).mono hW1.size)⟩
        · have HID := Lib.hid hid'; clear hid'
          cases hin : ((t.take k).map (·.id)).contains c.id
          · have HIN := Lib.hid hin; clear hin
            cases hll : inB c.lines.length 1 10
            · go_wp2_with (go_step3)
              refine Calls.mono (in_at c.id 0 9999 _ _ (by simp) hwc) ?_
              rintro e w3 ⟨rfl, hB3⟩
              rw [HID.out]
              obtain ⟨hc3, hf3⟩ := bcell hB3
              have hz3 := hB3.size
              have hX3 : Below w1.heap.size w1 w3 := hB2.trans (Below.trans (by repeat (first | exact Below.refl _ _ | assumption | refine Below.drew ?_ | refine below_drewN ?_ _ | refine Below.alloc ?_ (by first | exact Nat.le_refl _ | omega | (simp; done) | (simp; omega) | (simp at *; omega)) _ | refine Below.setCell ?_ (by first | exact Nat.le_refl _ | omega | (simp; done) | (simp; omega) | (simp at *; omega)) _ | refine Below.grown ?_ (by assumption) (by first | exact Nat.le_refl _ | omega | (simp; done) | (simp; omega) | (simp at *; omega)) (by first | assumption | (intro _ hk; simp [Value.ownBlock] at hk; omega)))) (hB3.mono (by first | exact Nat.le_refl _ | omega | (simp; done) | (simp; omega) | (simp at *; omega))))
              have hM3 := (hM.alloc (.cells #[.int .i64 c.id, .slice pl c.lines.length cl] 44)).below hB3 (by simp; omega)
              have hl3 : w2.heap.size < w3.heap.size := (by first | exact Nat.le_refl _ | omega | (simp; done) | (simp; omega) | (simp at *; omega))
              have hlk := hM3.lookup keyInt Try.underlying64 (Try.zeroValue4 w3) (Go.Maps.keyOf_int_mk Try.underlying3 hwc)
              rw [HI.out.get c.id HIN.out] at hlk
              go_wp2_with (go_step3)
              refine Calls.mono (in_at c.lines.length 1 10 _ _ (by simp) hwl) ?_
              rintro e w4 ⟨rfl, hB4⟩
              rw [hll]
              go_wp2_with (go_step3)
              try simp only [Exit.noGoto_ret]
              go_ret
              exact ⟨ret_int (textE_no (by
                have : t.all chapB = false := all_false_of HX.out (by simp [chapB, hll])
                simp [textB, this])).symm, hW1.trans ((hX3.trans (hB4.mono hX3.size)).mono hW1.size)⟩
            · have HLL := Lib.hid hll; clear hll
              go_wp2_with (go_step3)
              refine Calls.mono (in_at c.id 0 9999 _ _ (by simp) hwc) ?_
              rintro e w3 ⟨rfl, hB3⟩
              rw [HID.out]
              obtain ⟨hc3, hf3⟩ := bcell hB3
              have hz3 := hB3.size
              have hX3 : Below w1.heap.size w1 w3 := hB2.trans (Below.trans (by repeat (first | exact Below.refl _ _ | assumption | refine Below.drew ?_ | refine below_drewN ?_ _ | refine Below.alloc ?_ (by first | exact Nat.le_refl _ | omega | (simp; done) | (simp; omega) | (simp at *; omega)) _ | refine Below.setCell ?_ (by first | exact Nat.le_refl _ | omega | (simp; done) | (simp; omega) | (simp at *; omega)) _ | refine Below.grown ?_ (by assumption) (by first | exact Nat.le_refl _ | omega | (simp; done) | (simp; omega) | (simp at *; omega)) (by first | assumption | (intro _ hk; simp [Value.ownBlock] at hk; omega)))) (hB3.mono (by first | exact Nat.le_refl _ | omega | (simp; done) | (simp; omega) | (simp at *; omega))))
              have hM3 := (hM.alloc (.cells #[.int .i64 c.id, .slice pl c.lines.length cl] 44)).below hB3 (by simp; omega)
              have hl3 : w2.heap.size < w3.heap.size := (by first | exact Nat.le_refl _ | omega | (simp; done) | (simp; omega) | (simp at *; omega))
              have hlk := hM3.lookup keyInt Try.underlying64 (Try.zeroValue4 w3) (Go.Maps.keyOf_int_mk Try.underlying3 hwc)
              rw [HI.out.get c.id HIN.out] at hlk
              go_wp2_with (go_step3)
              refine Calls.mono (in_at c.lines.length 1 10 _ _ (by simp) hwl) ?_
              rintro e w4 ⟨rfl, hB4⟩
              rw [HLL.out]
              have hz4 := hB4.size
              obtain ⟨hc4, hf4⟩ := bcell hB4
              have hX4 : Below w1.heap.size w1 w4 := hX3.trans (hB4.mono hX3.size)
              have hM4 := hM3.below hB4 hM3.lt
              have h40 : w4.cell? ⟨w2.heap.size, 0, none⟩ = some (.int .i64 c.id) := by rw [hc4 _ _ (by omega), hc3 _ _ (by simp)]; simp
              have h41 : w4.cell? ⟨w2.heap.size, 1, none⟩ = some (.slice pl c.lines.length cl) := by rw [hc4 _ _ (by omega), hc3 _ _ (by simp)]; simp
              clear hc3 hf3 hlk hc4 hf4
              obtain ⟨w6, hup, hM6, hG6⟩ := hM4.update keyInt Try.underlying64 (Go.Maps.keyOf_int_mk Try.underlying3 hwc) (.bool true)
              have h61 : w6.cell? ⟨w2.heap.size, 1, none⟩ = some (.slice pl c.lines.length cl) := hG6.cell h41 (by simp; omega)
              have hX6 : Below w1.heap.size w1 w6 := hX4.grown hG6 hX4.size (by simp)
              have hz6 := hG6.size
              have hl6 : w2.heap.size < w6.heap.size := by omega
              go_wp2_with (go_step3)
              clear hup h40 h41
              go_loopg [3, 48] (c.lines.length + 1) (fun g e0 i wr => ∃ n : Nat, n ≤ c.lines.length ∧ g = c.lines.length + 1 - n ∧ i = .int .i64 n ∧ e0 = .int .i64 0 ∧ (c.lines.take n).all lineB = true ∧ Below w6.heap.size w6 wr)
              case atStart => exact ⟨0, Nat.zero_le _, by simp, rfl, rfl, by simp, (by repeat (first | exact Below.refl _ _ | assumption | refine Below.drew ?_ | refine below_drewN ?_ _ | refine Below.alloc ?_ (by first | exact Nat.le_refl _ | omega | (simp; done) | (simp; omega) | (simp at *; omega)) _ | refine Below.setCell ?_ (by first | exact Nat.le_refl _ | omega | (simp; done) | (simp; omega) | (simp at *; omega)) _ | refine Below.grown ?_ (by assumption) (by first | exact Nat.le_refl _ | omega | (simp; done) | (simp; omega) | (simp at *; omega)) (by first | assumption | (intro _ hk; simp [Value.ownBlock] at hk; omega))))⟩
              case round =>
                obtain ⟨w7, rfl⟩ : ∃ x : World, x = wr := ⟨_, rfl⟩
                obtain ⟨n, hn, rfl, rfl, rfl, hq, hB7⟩ := hrel
                have HQ := Lib.hid hq; clear hq
                have hX7 : Below w1.heap.size w1 w7 := hX6.trans (hB7.mono hX6.size)
                have hz7 := hB7.size
                by_cases hln : n < c.lines.length
                · obtain ⟨l, hlx⟩ := some_of_lt hln
                  have hW7 : Below w.heap.size w w7 := hW1.trans (hX7.mono hW1.size)
                  obtain ⟨hc7, hf7⟩ := bcell hW7
                  obtain ⟨b3, o3, rfl, hb3, q3, u3, d3, hrw⟩ := hrl.sub hlx
                  have HL := Lib.hid hlx; clear hlx
                  have hmw := hrw.bd
                  have hwll := I64.of (n := (l.length : Int)) (by omega)
                  cases hl10 : inB l.length 1 10
                  · go_wp2_with (go_step3)
                    refine Calls.mono (in_at l.length 1 10 _ _ (by simp) hwll) ?_
                    rintro e w8 ⟨rfl, hB8⟩
                    rw [hl10]
                    go_wp2_with (go_step3)
                    try simp only [Exit.noGoto_ret]
                    go_ret
                    exact ⟨ret_int (textE_no (by
                      have h1 : c.lines.all lineB = false := all_false_of HL.out (by simp [lineB, hl10])
                      have : t.all chapB = false := all_false_of HX.out (by simp [chapB, h1])
                      simp [textB, this])).symm, hW7.trans (hB8.mono hW7.size)⟩
                  · have HL10 := Lib.hid hl10; clear hl10
                    cases hwd : l.any (fun s => !wordB s)
                    all_goals
                      go_wp2_with (go_step3)
                      refine Calls.mono (in_at l.length 1 10 _ _ (by simp) hwll) ?_
                      rintro e w8 ⟨rfl, hB8⟩
                      rw [HL10.out]
                      have hW8 : Below w.heap.size w w8 := hW7.trans (hB8.mono hW7.size)
                      go_wp2_with (go_step3)
                      refine Calls.mono (ContainsFunc_str l (fun s => !wordB s) _ 29 #[] _ Try.call29 (hrw.below hW8) (fun w' i x _ _ hx => Check1_any x w' (by have := hx.2; simpa [maxLen] using this))) ?_
                      rintro e w9 ⟨rfl, hB9⟩
                      rw [hwd]
                      have hX9 : Below w6.heap.size w6 w9 := hB7.trans ((hB8.trans (hB9.mono hB8.size)).mono hz7)
                    · go_wp2_with (go_step3)
                      go_roundg (c.lines.length + 1 - (n + 1))
                      case rel => exact ⟨n + 1, by omega, rfl, by go_num, rfl, by rw [all_take HL.out, HQ.out]; simp only [List.any_eq_false, Bool.not_eq_true, Bool.not_eq_false'] at hwd; simp [lineB, HL10.out]; exact hwd, hX9⟩
                      case measure => omega
                    · go_wp2_with (go_step3)
                      try simp only [Exit.noGoto_ret]
                      go_ret
                      exact ⟨ret_int (textE_no (by
                        have h2 : l.all wordB = false := by
                          obtain ⟨s, hs, h⟩ := List.any_eq_true.1 hwd
                          exact List.all_eq_false.2 ⟨s, hs, by simpa using h⟩
                        have h1 : c.lines.all lineB = false := all_false_of HL.out (by simp [lineB, h2])
                        have : t.all chapB = false := all_false_of HX.out (by simp [chapB, h1])
                        simp [textB, this])).symm, hW1.trans ((hX6.trans (hX9.mono hX6.size)).mono hW1.size)⟩
                · have h1 : c.lines.all lineB = true := by have := HQ.out; rwa [take_all (by omega)] at this
                  have H1 := Lib.hid h1; clear h1
                  have HNM : Hid (c.id ∉ (t.take k).map (·.id)) := Lib.hid (by have := HIN.out; simpa using this)
                  go_wp2_with (go_step3)
                  go_roundg (t.length + 1 - (k + 1))
                  case rel => exact ⟨k + 1, by omega, rfl, by go_num, rfl, by rw [all_take HX.out, HP.out]; simp [chapB, HID.out, HLL.out, H1.out], by rw [map_take_snoc HX.out]; exact nodup_snoc HND.out HNM.out, hX7, by omega, _, hM6.below hB7 hM6.lt, by rw [map_take_snoc HX.out]; exact HI.out.put c.id⟩
                  case measure => omega
          · have HIN := Lib.hid hin; clear hin
            go_wp2_with (go_step3)
            refine Calls.mono (in_at c.id 0 9999 _ _ (by simp) hwc) ?_
            rintro e w3 ⟨rfl, hB3⟩
            rw [HID.out]
            obtain ⟨hc3, hf3⟩ := bcell hB3
            have hz3 := hB3.size
            have hX3 : Below w1.heap.size w1 w3 := hB2.trans (Below.trans (by repeat (first | exact Below.refl _ _ | assumption | refine Below.drew ?_ | refine below_drewN ?_ _ | refine Below.alloc ?_ (by first | exact Nat.le_refl _ | omega | (simp; done) | (simp; omega) | (simp at *; omega)) _ | refine Below.setCell ?_ (by first | exact Nat.le_refl _ | omega | (simp; done) | (simp; omega) | (simp at *; omega)) _ | refine Below.grown ?_ (by assumption) (by first | exact Nat.le_refl _ | omega | (simp; done) | (simp; omega) | (simp at *; omega)) (by first | assumption | (intro _ hk; simp [Value.ownBlock] at hk; omega)))) (hB3.mono (by first | exact Nat.le_refl _ | omega | (simp; done) | (simp; omega) | (simp at *; omega))))
            have hM3 := (hM.alloc (.cells #[.int .i64 c.id, .slice pl c.lines.length cl] 44)).below hB3 (by simp; omega)
            have hl3 : w2.heap.size < w3.heap.size := (by first | exact Nat.le_refl _ | omega | (simp; done) | (simp; omega) | (simp at *; omega))
            have hlk := hM3.lookup keyInt Try.underlying64 (Try.zeroValue4 w3) (Go.Maps.keyOf_int_mk Try.underlying3 hwc)
            rw [HI.out.get c.id HIN.out] at hlk
            go_wp2_with (go_step3)
            try simp only [Exit.noGoto_ret]
            go_ret
            exact ⟨ret_int (textE_no (by
              have h1 : c.id ∈ (t.take k).map (·.id) := by simpa using HIN.out
              obtain ⟨d, hd, he⟩ := List.mem_map.1 h1
              obtain ⟨j, hj, e1⟩ := List.mem_take_iff_getElem.1 hd
              have hjk : j < k := by omega
              have := not_nodup_map (f := fun x : Chap => x.id) (show t[j]? = some d by rw [List.getElem?_eq_getElem (by omega), e1]) HX.out hjk he
              simp [textB, this])).symm, hW1.trans (hX3.mono hW1.size)⟩
      · go_wp2
        go_ret
        exact ⟨ret_int (textE_ok (by
          have h1 := HP.out
          have h2 := HND.out
          rw [take_all (by omega)] at h1 h2
          simp [textB, H6.out, h1, h2])).symm, hW1.trans (hB2.mono hW1.size)⟩
end Go.Proofs.Ytalkonicppbgdaa
