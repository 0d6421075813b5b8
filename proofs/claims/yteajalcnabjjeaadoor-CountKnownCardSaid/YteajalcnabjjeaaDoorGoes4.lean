/-
  THE WALK of law04.counts: it answers true. Conditions: the library's table holds its numbers.
-/
import Derived.Test.YteajalcnabjjeaaDoorCount
namespace Go.Proofs.YteajalcnabjjeaaDoor
open Go.RowKit
namespace Hb
set_option maxRecDepth 20000
theorem bv_of (h l : Int) (x : BitVec 128) (e : hiB x = h ∧ loB x = l) : Bv x = .agg #[.int .u64 h, .int .u64 l] := by simp only [Bv]; rw [e.1, e.2]
theorem wv_of (a b c d : Int) (x : BitVec 256) (e : wq0 x = a ∧ wq1 x = b ∧ wq2 x = c ∧ wq3 x = d) : Wv x = .agg #[.int .u64 a, .int .u64 b, .int .u64 c, .int .u64 d] := by simp only [Wv]; rw [e.1, e.2.1, e.2.2.1, e.2.2.2]
theorem k4a (w : World) : Calls Tryd.prog 15 #[.agg #[.int .u64 0, .int .u64 1]] w fun e w' => e = .returned (.tuple #[.agg #[.int .u64 9223372036854775808, .int .u64 0], .int .i64 127]) ∧ Gr w w' := by
  have h := craise_as (mkB 0 1) _ _ (Lib.hid ⟨rfl, rfl⟩) w
  rw [bv_of 0 1 (mkB 0 1) (by decide +kernel), bv_of 9223372036854775808 0 (bRaise (mkB 0 1)) (by decide +kernel), show bRby (mkB 0 1) = 127 by decide +kernel] at h
  exact h
theorem k4b (w : World) : Calls Tryd.prog 16 #[.agg #[.int .u64 3, .int .u64 0, .int .u64 0, .int .u64 0]] w fun e w' => e = .returned (.tuple #[.agg #[.int .u64 0, .int .u64 0, .int .u64 0, .int .u64 13835058055282163712], .int .i64 254]) ∧ Gr w w' := by
  have h := wraise_as (mkW 3 0 0 0) _ _ (Lib.hid ⟨rfl, rfl⟩) w
  rw [wv_of 3 0 0 0 (mkW 3 0 0 0) (by decide +kernel), wv_of 0 0 0 13835058055282163712 (wRaise (mkW 3 0 0 0)) (by decide +kernel), show wRby (mkW 3 0 0 0) = 254 by decide +kernel] at h
  exact h
theorem k4c (w : World) : Calls Tryd.prog 17 #[.agg #[.int .u64 0, .int .u64 255]] w fun e w' => e = .returned (.int .i64 8) ∧ Gr w w' := by
  have h := clen_as (mkB 0 255) _ (Lib.hid rfl) w
  rw [bv_of 0 255 (mkB 0 255) (by decide +kernel), show bLen (mkB 0 255) = 8 by decide +kernel] at h
  exact h
theorem k4d (w : World) : Calls Tryd.prog 19 #[.agg #[.int .u64 0, .int .u64 0, .int .u64 0, .int .u64 9223372036854775808]] w fun e w' => e = .returned (.int .i64 256) ∧ Gr w w' := by
  have h := wlen_as (mkW 0 0 0 9223372036854775808) _ (Lib.hid rfl) w
  rw [wv_of 0 0 0 9223372036854775808 (mkW 0 0 0 9223372036854775808) (by decide +kernel), show wLen (mkW 0 0 0 9223372036854775808) = 256 by decide +kernel] at h
  exact h
theorem k4e (w : World) (hT : DTab w) : Calls Tryd.prog 18 #[.agg #[.int .u64 12, .int .u64 0, .int .u64 0, .int .u64 0]] w fun e w' => e = .returned (.int .i64 2) ∧ Gr w w' := by
  have h := tail_as (mkW 12 0 0 0) _ (Lib.hid rfl) w hT
  rw [wv_of 12 0 0 0 (mkW 12 0 0 0) (by decide +kernel), show wTail (mkW 12 0 0 0) = 2 by decide +kernel] at h
  exact h
theorem counts_any (w : World) (hT : DTab w) :
    Calls Tryd.prog 20 #[] w fun x w' => x = .returned (.bool true) ∧ Gr w w' := by
  have heq := eq4_run 0 0 0 13835058055282163712 0 0 0 13835058055282163712 true (by decide)

  go_enter Tryd.func20, Tryd.ntmps20
  go_wp2_with (first
    | (go_at_call 15; refine (k4a _).mono ?_; rintro e w1 ⟨rfl, hb1⟩; (try (with_reducible replace hb1 := undrew hb1)); obtain ⟨hc1, hf1⟩ := bcell hb1; have hs1 := hb1.size; (try simp at hs1))
    | (go_at_call 16; refine (k4b _).mono ?_; rintro e w2 ⟨rfl, hb2⟩; (try (with_reducible replace hb2 := undrew hb2)); obtain ⟨hc2, hf2⟩ := bcell hb2; have hs2 := hb2.size; (try simp at hs2); (try have y2_0_0 : w1.heap.size < w2.heap.size := (by omega)); (try have y2_0_1 : w1.heap.size < w2.heap.size + 1 := (by omega)))
    | (go_at_call 17; refine (k4c _).mono ?_; rintro e w3 ⟨rfl, hb3⟩; (try (with_reducible replace hb3 := undrew hb3)); obtain ⟨hc3, hf3⟩ := bcell hb3; have hs3 := hb3.size; (try simp at hs3); (try have y3_0_0 : w1.heap.size < w3.heap.size := (by omega)); (try have y3_1_0 : w2.heap.size < w3.heap.size := (by omega)))
    | (go_at_call 19; refine (k4d _).mono ?_; rintro e w4 ⟨rfl, hb4⟩; (try (with_reducible replace hb4 := undrew hb4)); obtain ⟨hc4, hf4⟩ := bcell hb4; have hs4 := hb4.size; (try simp at hs4); (try have y4_0_0 : w1.heap.size < w4.heap.size := (by omega)); (try have y4_1_0 : w2.heap.size < w4.heap.size := (by omega)))
    | (go_at_call 18; refine (k4e _ (hT.below (by (repeat (first | with_reducible assumption | with_reducible exact Below.refl _ _ | with_reducible apply Below.drew | with_reducible apply below_drewN | with_reducible refine Below.alloc ?_ (by first | omega | (simp <;> omega)) _ | with_reducible refine Below.setCell ?_ (by first | omega | (simp <;> omega)) _ | with_reducible refine Below.trans ?_ (Below.mono (by assumption) (by first | omega | (simp <;> omega)))))))).mono ?_; rintro e w5 ⟨rfl, hb5⟩; (try (with_reducible replace hb5 := undrew hb5)); obtain ⟨hc5, hf5⟩ := bcell hb5; have hs5 := hb5.size; (try simp at hs5); (try have y5_0_0 : w1.heap.size < w5.heap.size := (by omega)); (try have y5_1_0 : w2.heap.size < w5.heap.size := (by omega))))
  go_ret
  exact ⟨rfl, by (repeat (first | with_reducible assumption | with_reducible exact Below.refl _ _ | with_reducible apply Below.drew | with_reducible apply below_drewN | with_reducible refine Below.alloc ?_ (by first | omega | (simp <;> omega)) _ | with_reducible refine Below.setCell ?_ (by first | omega | (simp <;> omega)) _ | with_reducible refine Below.trans ?_ (Below.mono (by assumption) (by first | omega | (simp <;> omega)))))⟩
theorem k4f (w : World) : Calls Tryd.prog 15 #[.agg #[.int .u64 0, .int .u64 0]] w fun e w' => e = .returned (.tuple #[.agg #[.int .u64 0, .int .u64 0], .int .i64 0]) ∧ Gr w w' := by
  have h := craise_as (mkB 0 0) _ _ (Lib.hid ⟨rfl, rfl⟩) w
  rw [bv_of 0 0 (mkB 0 0) (by decide +kernel), bv_of 0 0 (bRaise (mkB 0 0)) (by decide +kernel), show bRby (mkB 0 0) = 0 by decide +kernel] at h
  exact h
theorem k4g (w : World) : Calls Tryd.prog 16 #[.agg #[.int .u64 0, .int .u64 0, .int .u64 0, .int .u64 0]] w fun e w' => e = .returned (.tuple #[.agg #[.int .u64 0, .int .u64 0, .int .u64 0, .int .u64 0], .int .i64 0]) ∧ Gr w w' := by
  have h := wraise_as (mkW 0 0 0 0) _ _ (Lib.hid ⟨rfl, rfl⟩) w
  rw [wv_of 0 0 0 0 (mkW 0 0 0 0) (by decide +kernel), wv_of 0 0 0 0 (wRaise (mkW 0 0 0 0)) (by decide +kernel), show wRby (mkW 0 0 0 0) = 0 by decide +kernel] at h
  exact h
theorem k4h (w : World) : Calls Tryd.prog 15 #[.agg #[.int .u64 9223372036854775808, .int .u64 5]] w fun e w' => e = .returned (.tuple #[.agg #[.int .u64 9223372036854775808, .int .u64 5], .int .i64 0]) ∧ Gr w w' := by
  have h := craise_as (mkB 9223372036854775808 5) _ _ (Lib.hid ⟨rfl, rfl⟩) w
  rw [bv_of 9223372036854775808 5 (mkB 9223372036854775808 5) (by decide +kernel), bv_of 9223372036854775808 5 (bRaise (mkB 9223372036854775808 5)) (by decide +kernel), show bRby (mkB 9223372036854775808 5) = 0 by decide +kernel] at h
  exact h
theorem k4i (w : World) : Calls Tryd.prog 17 #[.agg #[.int .u64 0, .int .u64 0]] w fun e w' => e = .returned (.int .i64 0) ∧ Gr w w' := by
  have h := clen_as (mkB 0 0) _ (Lib.hid rfl) w
  rw [bv_of 0 0 (mkB 0 0) (by decide +kernel), show bLen (mkB 0 0) = 0 by decide +kernel] at h
  exact h
theorem k4j (w : World) : Calls Tryd.prog 17 #[.agg #[.int .u64 0, .int .u64 1]] w fun e w' => e = .returned (.int .i64 1) ∧ Gr w w' := by
  have h := clen_as (mkB 0 1) _ (Lib.hid rfl) w
  rw [bv_of 0 1 (mkB 0 1) (by decide +kernel), show bLen (mkB 0 1) = 1 by decide +kernel] at h
  exact h
theorem k4k (w : World) : Calls Tryd.prog 17 #[.agg #[.int .u64 1, .int .u64 0]] w fun e w' => e = .returned (.int .i64 65) ∧ Gr w w' := by
  have h := clen_as (mkB 1 0) _ (Lib.hid rfl) w
  rw [bv_of 1 0 (mkB 1 0) (by decide +kernel), show bLen (mkB 1 0) = 65 by decide +kernel] at h
  exact h
theorem k4l (w : World) (hT : DTab w) : Calls Tryd.prog 18 #[.agg #[.int .u64 0, .int .u64 0, .int .u64 0, .int .u64 0]] w fun e w' => e = .returned (.int .i64 256) ∧ Gr w w' := by
  have h := tail_as (mkW 0 0 0 0) _ (Lib.hid rfl) w hT
  rw [wv_of 0 0 0 0 (mkW 0 0 0 0) (by decide +kernel), show wTail (mkW 0 0 0 0) = 256 by decide +kernel] at h
  exact h
theorem k4m (w : World) (hT : DTab w) : Calls Tryd.prog 18 #[.agg #[.int .u64 0, .int .u64 2, .int .u64 0, .int .u64 0]] w fun e w' => e = .returned (.int .i64 65) ∧ Gr w w' := by
  have h := tail_as (mkW 0 2 0 0) _ (Lib.hid rfl) w hT
  rw [wv_of 0 2 0 0 (mkW 0 2 0 0) (by decide +kernel), show wTail (mkW 0 2 0 0) = 65 by decide +kernel] at h
  exact h
theorem k4n (w : World) : Calls Tryd.prog 19 #[.agg #[.int .u64 0, .int .u64 0, .int .u64 7, .int .u64 0]] w fun e w' => e = .returned (.int .i64 131) ∧ Gr w w' := by
  have h := wlen_as (mkW 0 0 7 0) _ (Lib.hid rfl) w
  rw [wv_of 0 0 7 0 (mkW 0 0 7 0) (by decide +kernel), show wLen (mkW 0 0 7 0) = 131 by decide +kernel] at h
  exact h
set_option maxHeartbeats 1000000 in
theorem walk_countKnown (w : World) (hT : DTab w) :
    Calls Tryd.prog 3 #[] w fun x w' => x = .returned (.bool true) ∧ Gr w w' := by
  have heq := eq4_run 0 0 0 0 0 0 0 0 true (by decide)

  go_enter Tryd.func3, Tryd.ntmps3
  go_wp2_with (first
    | (go_at_call_of 15 (#[Value.agg #[Value.int IntKind.u64 0, Value.int IntKind.u64 0]]); refine (k4f _).mono ?_; rintro e w1 ⟨rfl, hb1⟩; (try (with_reducible replace hb1 := undrew hb1)); obtain ⟨hc1, hf1⟩ := bcell hb1; have hs1 := hb1.size; (try simp at hs1))
    | (go_at_call 16; refine (k4g _).mono ?_; rintro e w2 ⟨rfl, hb2⟩; (try (with_reducible replace hb2 := undrew hb2)); obtain ⟨hc2, hf2⟩ := bcell hb2; have hs2 := hb2.size; (try simp at hs2); (try have y2_0_0 : w1.heap.size < w2.heap.size := (by omega)); (try have y2_0_1 : w1.heap.size < w2.heap.size + 1 := (by omega)))
    | (go_at_call 15; refine (k4h _).mono ?_; rintro e w3 ⟨rfl, hb3⟩; (try (with_reducible replace hb3 := undrew hb3)); obtain ⟨hc3, hf3⟩ := bcell hb3; have hs3 := hb3.size; (try simp at hs3); (try have y3_0_0 : w1.heap.size < w3.heap.size := (by omega)); (try have y3_0_1 : w1.heap.size < w3.heap.size + 1 := (by omega)); (try have y3_1_0 : w2.heap.size < w3.heap.size := (by omega)); (try have y3_1_1 : w2.heap.size < w3.heap.size + 1 := (by omega)))
    | (go_at_call_of 17 (#[Value.agg #[Value.int IntKind.u64 0, Value.int IntKind.u64 0]]); refine (k4i _).mono ?_; rintro e w4 ⟨rfl, hb4⟩; (try (with_reducible replace hb4 := undrew hb4)); obtain ⟨hc4, hf4⟩ := bcell hb4; have hs4 := hb4.size; (try simp at hs4); (try have y4_0_0 : w1.heap.size < w4.heap.size := (by omega)); (try have y4_1_0 : w2.heap.size < w4.heap.size := (by omega)); (try have y4_2_0 : w3.heap.size < w4.heap.size := (by omega)))
    | (go_at_call_of 17 (#[Value.agg #[Value.int IntKind.u64 0, Value.int IntKind.u64 1]]); refine (k4j _).mono ?_; rintro e w5 ⟨rfl, hb5⟩; (try (with_reducible replace hb5 := undrew hb5)); obtain ⟨hc5, hf5⟩ := bcell hb5; have hs5 := hb5.size; (try simp at hs5); (try have y5_0_0 : w1.heap.size < w5.heap.size := (by omega)); (try have y5_1_0 : w2.heap.size < w5.heap.size := (by omega)); (try have y5_2_0 : w3.heap.size < w5.heap.size := (by omega)))
    | (go_at_call_of 17 (#[Value.agg #[Value.int IntKind.u64 1, Value.int IntKind.u64 0]]); refine (k4k _).mono ?_; rintro e w6 ⟨rfl, hb6⟩; (try (with_reducible replace hb6 := undrew hb6)); obtain ⟨hc6, hf6⟩ := bcell hb6; have hs6 := hb6.size; (try simp at hs6); (try have y6_0_0 : w1.heap.size < w6.heap.size := (by omega)); (try have y6_1_0 : w2.heap.size < w6.heap.size := (by omega)); (try have y6_2_0 : w3.heap.size < w6.heap.size := (by omega)))
    | (go_at_call_of 18 (Value.int IntKind.u64 2); refine (k4m _ (hT.below (by (repeat (first | with_reducible assumption | with_reducible exact Below.refl _ _ | with_reducible apply Below.drew | with_reducible apply below_drewN | with_reducible refine Below.alloc ?_ (by first | omega | (simp <;> omega)) _ | with_reducible refine Below.setCell ?_ (by first | omega | (simp <;> omega)) _ | with_reducible refine Below.trans ?_ (Below.mono (by assumption) (by first | omega | (simp <;> omega)))))))).mono ?_; rintro e w7 ⟨rfl, hb7⟩; (try (with_reducible replace hb7 := undrew hb7)); obtain ⟨hc7, hf7⟩ := bcell hb7; have hs7 := hb7.size; (try simp at hs7); (try have y7_0_0 : w1.heap.size < w7.heap.size := (by omega)); (try have y7_1_0 : w2.heap.size < w7.heap.size := (by omega)); (try have y7_2_0 : w3.heap.size < w7.heap.size := (by omega)))
    | (go_at_call 18; refine (k4l _ (hT.below (by (repeat (first | with_reducible assumption | with_reducible exact Below.refl _ _ | with_reducible apply Below.drew | with_reducible apply below_drewN | with_reducible refine Below.alloc ?_ (by first | omega | (simp <;> omega)) _ | with_reducible refine Below.setCell ?_ (by first | omega | (simp <;> omega)) _ | with_reducible refine Below.trans ?_ (Below.mono (by assumption) (by first | omega | (simp <;> omega)))))))).mono ?_; rintro e w8 ⟨rfl, hb8⟩; (try (with_reducible replace hb8 := undrew hb8)); obtain ⟨hc8, hf8⟩ := bcell hb8; have hs8 := hb8.size; (try simp at hs8); (try have y8_0_0 : w1.heap.size < w8.heap.size := (by omega)); (try have y8_1_0 : w2.heap.size < w8.heap.size := (by omega)); (try have y8_2_0 : w3.heap.size < w8.heap.size := (by omega)))
    | (go_at_call 19; refine (k4n _).mono ?_; rintro e w9 ⟨rfl, hb9⟩; (try (with_reducible replace hb9 := undrew hb9)); obtain ⟨hc9, hf9⟩ := bcell hb9; have hs9 := hb9.size; (try simp at hs9); (try have y9_0_0 : w1.heap.size < w9.heap.size := (by omega)); (try have y9_1_0 : w2.heap.size < w9.heap.size := (by omega)); (try have y9_2_0 : w3.heap.size < w9.heap.size := (by omega)))
    | (go_at_call 20; refine (counts_any _ (hT.below (by (repeat (first | with_reducible assumption | with_reducible exact Below.refl _ _ | with_reducible apply Below.drew | with_reducible apply below_drewN | with_reducible refine Below.alloc ?_ (by first | omega | (simp <;> omega)) _ | with_reducible refine Below.setCell ?_ (by first | omega | (simp <;> omega)) _ | with_reducible refine Below.trans ?_ (Below.mono (by assumption) (by first | omega | (simp <;> omega)))))))).mono ?_; rintro e w10 ⟨rfl, hb10⟩; (try (with_reducible replace hb10 := undrew hb10)); obtain ⟨hc10, hf10⟩ := bcell hb10; have hs10 := hb10.size; (try simp at hs10); (try have y10_0_0 : w1.heap.size < w10.heap.size := (by omega)); (try have y10_1_0 : w2.heap.size < w10.heap.size := (by omega)); (try have y10_2_0 : w3.heap.size < w10.heap.size := (by omega))))
  go_ret
  exact ⟨rfl, by (repeat (first | with_reducible assumption | with_reducible exact Below.refl _ _ | with_reducible apply Below.drew | with_reducible apply below_drewN | with_reducible refine Below.alloc ?_ (by first | omega | (simp <;> omega)) _ | with_reducible refine Below.setCell ?_ (by first | omega | (simp <;> omega)) _ | with_reducible refine Below.trans ?_ (Below.mono (by assumption) (by first | omega | (simp <;> omega)))))⟩
end Hb
end Go.Proofs.YteajalcnabjjeaaDoor
