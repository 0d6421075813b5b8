/-
  THE WALK of law04.counts: it answers true. Conditions: the library's table holds its numbers.
-/
import Derived.Test.YtbelighbkjadkaaDoorCount
namespace Go.Proofs.YtbelighbkjadkaaDoor
open Go.RowKit
namespace Hb
set_option maxRecDepth 20000
theorem bv_of (h l : Int) (x : BitVec 128) (e : hiB x = h ∧ loB x = l) : Bv x = .agg #[.int .u64 h, .int .u64 l] := by simp only [Bv]; rw [e.1, e.2]
theorem wv_of (a b c d : Int) (x : BitVec 256) (e : wq0 x = a ∧ wq1 x = b ∧ wq2 x = c ∧ wq3 x = d) : Wv x = .agg #[.int .u64 a, .int .u64 b, .int .u64 c, .int .u64 d] := by simp only [Wv]; rw [e.1, e.2.1, e.2.2.1, e.2.2.2]
theorem k4a (w : World) : Calls Tryd.prog 22 #[.agg #[.int .u64 0, .int .u64 1]] w fun e w' => e = .returned (.tuple #[.agg #[.int .u64 9223372036854775808, .int .u64 0], .int .i64 127]) ∧ Gr w w' := by
  have h := craise_as (mkB 0 1) _ _ (Lib.hid ⟨rfl, rfl⟩) w
  rw [bv_of 0 1 (mkB 0 1) (by decide +kernel), bv_of 9223372036854775808 0 (bRaise (mkB 0 1)) (by decide +kernel), show bRby (mkB 0 1) = 127 by decide +kernel] at h
  exact h
theorem k4b (w : World) : Calls Tryd.prog 28 #[.agg #[.int .u64 3, .int .u64 0, .int .u64 0, .int .u64 0]] w fun e w' => e = .returned (.tuple #[.agg #[.int .u64 0, .int .u64 0, .int .u64 0, .int .u64 13835058055282163712], .int .i64 254]) ∧ Gr w w' := by
  have h := wraise_as (mkW 3 0 0 0) _ _ (Lib.hid ⟨rfl, rfl⟩) w
  rw [wv_of 3 0 0 0 (mkW 3 0 0 0) (by decide +kernel), wv_of 0 0 0 13835058055282163712 (wRaise (mkW 3 0 0 0)) (by decide +kernel), show wRby (mkW 3 0 0 0) = 254 by decide +kernel] at h
  exact h
theorem k4c (w : World) : Calls Tryd.prog 24 #[.agg #[.int .u64 0, .int .u64 255]] w fun e w' => e = .returned (.int .i64 8) ∧ Gr w w' := by
  have h := clen_as (mkB 0 255) _ (Lib.hid rfl) w
  rw [bv_of 0 255 (mkB 0 255) (by decide +kernel), show bLen (mkB 0 255) = 8 by decide +kernel] at h
  exact h
theorem k4d (w : World) : Calls Tryd.prog 29 #[.agg #[.int .u64 0, .int .u64 0, .int .u64 0, .int .u64 9223372036854775808]] w fun e w' => e = .returned (.int .i64 256) ∧ Gr w w' := by
  have h := wlen_as (mkW 0 0 0 9223372036854775808) _ (Lib.hid rfl) w
  rw [wv_of 0 0 0 9223372036854775808 (mkW 0 0 0 9223372036854775808) (by decide +kernel), show wLen (mkW 0 0 0 9223372036854775808) = 256 by decide +kernel] at h
  exact h
theorem k4e (w : World) (hT : DTab w) : Calls Tryd.prog 30 #[.agg #[.int .u64 12, .int .u64 0, .int .u64 0, .int .u64 0]] w fun e w' => e = .returned (.int .i64 2) ∧ Gr w w' := by
  have h := tail_as (mkW 12 0 0 0) _ (Lib.hid rfl) w hT
  rw [wv_of 12 0 0 0 (mkW 12 0 0 0) (by decide +kernel), show wTail (mkW 12 0 0 0) = 2 by decide +kernel] at h
  exact h
theorem counts_any (w : World) (hT : DTab w) :
    Calls Tryd.prog 26 #[] w fun x w' => x = .returned (.bool true) ∧ Gr w w' := by
  have heq := eq4_run 0 0 0 13835058055282163712 0 0 0 13835058055282163712 true (by decide)

  go_enter Tryd.func26, Tryd.ntmps26
  go_wp2_with (first
    | (go_at_call 22; refine (k4a _).mono ?_; rintro e w1 ⟨rfl, hb1⟩; (try (with_reducible replace hb1 := undrew hb1)); obtain ⟨hc1, hf1⟩ := bcell hb1; have hs1 := hb1.size; (try simp at hs1))
    | (go_at_call 28; refine (k4b _).mono ?_; rintro e w2 ⟨rfl, hb2⟩; (try (with_reducible replace hb2 := undrew hb2)); obtain ⟨hc2, hf2⟩ := bcell hb2; have hs2 := hb2.size; (try simp at hs2); (try have y2_0_0 : w1.heap.size < w2.heap.size := (by omega)); (try have y2_0_1 : w1.heap.size < w2.heap.size + 1 := (by omega)))
    | (go_at_call 24; refine (k4c _).mono ?_; rintro e w3 ⟨rfl, hb3⟩; (try (with_reducible replace hb3 := undrew hb3)); obtain ⟨hc3, hf3⟩ := bcell hb3; have hs3 := hb3.size; (try simp at hs3); (try have y3_0_0 : w1.heap.size < w3.heap.size := (by omega)); (try have y3_1_0 : w2.heap.size < w3.heap.size := (by omega)))
    | (go_at_call 29; refine (k4d _).mono ?_; rintro e w4 ⟨rfl, hb4⟩; (try (with_reducible replace hb4 := undrew hb4)); obtain ⟨hc4, hf4⟩ := bcell hb4; have hs4 := hb4.size; (try simp at hs4); (try have y4_0_0 : w1.heap.size < w4.heap.size := (by omega)); (try have y4_1_0 : w2.heap.size < w4.heap.size := (by omega)))
    | (go_at_call 30; refine (k4e _ (hT.below (by (repeat (first | with_reducible assumption | with_reducible exact Below.refl _ _ | with_reducible apply Below.drew | with_reducible apply below_drewN | with_reducible refine Below.alloc ?_ (by first | omega | (simp <;> omega)) _ | with_reducible refine Below.setCell ?_ (by first | omega | (simp <;> omega)) _ | with_reducible refine Below.trans ?_ (Below.mono (by assumption) (by first | omega | (simp <;> omega)))))))).mono ?_; rintro e w5 ⟨rfl, hb5⟩; (try (with_reducible replace hb5 := undrew hb5)); obtain ⟨hc5, hf5⟩ := bcell hb5; have hs5 := hb5.size; (try simp at hs5); (try have y5_0_0 : w1.heap.size < w5.heap.size := (by omega)); (try have y5_1_0 : w2.heap.size < w5.heap.size := (by omega))))
  go_ret
  exact ⟨rfl, by (repeat (first | with_reducible assumption | with_reducible exact Below.refl _ _ | with_reducible apply Below.drew | with_reducible apply below_drewN | with_reducible refine Below.alloc ?_ (by first | omega | (simp <;> omega)) _ | with_reducible refine Below.setCell ?_ (by first | omega | (simp <;> omega)) _ | with_reducible refine Below.trans ?_ (Below.mono (by assumption) (by first | omega | (simp <;> omega)))))⟩
end Hb
end Go.Proofs.YtbelighbkjadkaaDoor
