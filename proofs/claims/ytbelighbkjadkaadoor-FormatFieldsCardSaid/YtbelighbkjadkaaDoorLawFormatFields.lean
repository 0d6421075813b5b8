/-
  THE WALK of the law FormatFields. Conditions: the table of the formats holds its numbers.
-/
import Derived.Test.YtbelighbkjadkaaDoorAs
import Derived.Test.YtbelighbkjadkaaDoorGoes
import Derived.Test.YtbelighbkjadkaaDoorRefMake
namespace Go.Proofs.YtbelighbkjadkaaDoor
open Go.RowKit
namespace Hb
set_option maxRecDepth 20000
set_option maxHeartbeats 4000000 in
theorem ff_core (f : Int) (l : 0 ≤ f) (u : f ≤ 255) (b t F z : BitVec 128) (neg N : Bool) (e E : Int) (n : Nat) (H1 : Hid (fNeg f b = N ∧ fExp f b = E ∧ fFrac f b = F)) (H2 : Hid (fNeg f b = N ∧ fExp f b = E ∧ (fFrac f b).toNat = n)) (H3 : Hid (nB n = F)) (H4 : Hid (fMake f neg e t = z)) (w : World) (hT : Tab w) :
    Calls Tryd.prog 3 #[.int .u8 f, Bv b, Bv t, .bool neg, .int .i64 e] w fun y w' => y = .returned (.bool true) ∧ Gr w w' := by
  simp only [Bv]
  have o2_0 : w.heap.size < w.heap.size + 1 + 1 := by omega
  go_enter Tryd.func3, Tryd.ntmps3
  go_wp2_with (first
    | (go_at_call 15; refine (split_as f l u b N E F H1 _ (hT.below (by (repeat (first | with_reducible assumption | with_reducible exact Below.refl _ _ | with_reducible apply Below.drew | with_reducible apply below_drewN | with_reducible refine Below.alloc ?_ (by first | omega | (simp <;> omega)) _ | with_reducible refine Below.setCell ?_ (by first | omega | (simp <;> omega)) _ | with_reducible refine Below.trans ?_ (Below.mono (by assumption) (by first | omega | (simp <;> omega)))))))).mono ?_; rintro e w1 ⟨rfl, hb1⟩; (try (with_reducible replace hb1 := undrew hb1)); obtain ⟨hc1, hf1⟩ := bcell hb1; have hs1 := hb1.size; (try simp at hs1); (try have y1_0_0 : w.heap.size < w1.heap.size := (by omega)); (try have y1_0_1 : w.heap.size < w1.heap.size + 1 := (by omega)); (try have y1_1_0 : w.heap.size + 1 < w1.heap.size := (by omega)); (try have y1_1_1 : w.heap.size + 1 < w1.heap.size + 1 := (by omega)))
    | (go_at_call 16; refine (rsplit_as f l u b N E n H2 _).mono ?_; rintro e w2 ⟨v2, rfl, hn2, hb2⟩; have HN2 := Lib.hid hn2; clear hn2; (try (with_reducible replace hb2 := undrew hb2)); obtain ⟨hc2, hf2⟩ := bcell hb2; have hs2 := hb2.size; (try simp at hs2); (try have y2_0_0 : w.heap.size < w2.heap.size := (by omega)); (try have y2_1_0 : w.heap.size + 1 < w2.heap.size := (by omega)); (try have y2_2_0 : w1.heap.size < w2.heap.size := (by omega))))
  go_region_held3 (fun x => x.cell? ⟨w.heap.size + 1, 0, none⟩ = some (.int .u64 (hiB t)) ∧ x.cell? ⟨w.heap.size + 1, 1, none⟩ = some (.int .u64 (loB t)) ∧ x.cell? ⟨w1.heap.size, 0, none⟩ = some (.int .u64 (hiB F)) ∧ x.cell? ⟨w1.heap.size, 1, none⟩ = some (.int .u64 (loB F)))
    (simp [go_sem, *])
    (first
      | (go_at_call 17; refine (bits_as v2 n F H3 _ (Lib.hid (HN2.out.below (by (repeat (first | with_reducible assumption | with_reducible exact Below.refl _ _ | with_reducible apply Below.drew | with_reducible apply below_drewN | with_reducible refine Below.alloc ?_ (by first | omega | (simp <;> omega)) _ | with_reducible refine Below.setCell ?_ (by first | omega | (simp <;> omega)) _ | with_reducible refine Below.trans ?_ (Below.mono (by assumption) (by first | omega | (simp <;> omega))))))))).mono ?_; rintro e w3 ⟨rfl, hb3⟩; (try (with_reducible replace hb3 := undrew hb3)); obtain ⟨hc3, hf3⟩ := bcell hb3; have hs3 := hb3.size; (try simp at hs3); (try have y3_0_0 : w.heap.size < w3.heap.size := (by omega)); (try have y3_1_0 : w.heap.size + 1 < w3.heap.size := (by omega)); (try have y3_2_0 : w1.heap.size < w3.heap.size := (by omega)))
      | (go_at_call 18; refine (make_as f l u neg e t z H4 _ (hT.below (by (repeat (first | with_reducible assumption | with_reducible exact Below.refl _ _ | with_reducible apply Below.drew | with_reducible apply below_drewN | with_reducible refine Below.alloc ?_ (by first | omega | (simp <;> omega)) _ | with_reducible refine Below.setCell ?_ (by first | omega | (simp <;> omega)) _ | with_reducible refine Below.trans ?_ (Below.mono (by assumption) (by first | omega | (simp <;> omega)))))))).mono ?_; rintro e w4 ⟨rfl, hb4⟩; (try (with_reducible replace hb4 := undrew hb4)); obtain ⟨hc4, hf4⟩ := bcell hb4; have hs4 := hb4.size; (try simp at hs4); (try have y4_0_0 : w.heap.size < w4.heap.size := (by omega)); (try have y4_1_0 : w.heap.size + 1 < w4.heap.size := (by omega)); (try have y4_2_0 : w1.heap.size < w4.heap.size := (by omega)))
      | (go_at_call 20; refine (big_any t _).mono ?_; rintro e w5 ⟨v5, rfl, hn5, hb5⟩; have HN5 := Lib.hid hn5; clear hn5; (try (with_reducible replace hb5 := undrew hb5)); obtain ⟨hc5, hf5⟩ := bcell hb5; have hs5 := hb5.size; (try simp at hs5); (try have y5_0_0 : w.heap.size < w5.heap.size := (by omega)); (try have y5_1_0 : w.heap.size + 1 < w5.heap.size := (by omega)); (try have y5_2_0 : w1.heap.size < w5.heap.size := (by omega)))
      | (go_at_call 19; refine (rmake_any f l u neg e v5 _ t z H4 rfl _ HN5).mono ?_; rintro e w6 ⟨rfl, hb6⟩; (try (with_reducible replace hb6 := undrew hb6)); obtain ⟨hc6, hf6⟩ := bcell hb6; have hs6 := hb6.size; (try simp at hs6); (try have y6_0_0 : w.heap.size < w6.heap.size := (by omega)); (try have y6_1_0 : w.heap.size + 1 < w6.heap.size := (by omega)); (try have y6_2_0 : w1.heap.size < w6.heap.size := (by omega)))
      | (go_at_call 21; refine (goes_any _ (hT.below (by (repeat (first | with_reducible assumption | with_reducible exact Below.refl _ _ | with_reducible apply Below.drew | with_reducible apply below_drewN | with_reducible refine Below.alloc ?_ (by first | omega | (simp <;> omega)) _ | with_reducible refine Below.setCell ?_ (by first | omega | (simp <;> omega)) _ | with_reducible refine Below.trans ?_ (Below.mono (by assumption) (by first | omega | (simp <;> omega)))))))).mono ?_; rintro e w7 ⟨rfl, hb7⟩; (try (with_reducible replace hb7 := undrew hb7)); obtain ⟨hc7, hf7⟩ := bcell hb7; have hs7 := hb7.size; (try simp at hs7); (try have y7_0_0 : w.heap.size < w7.heap.size := (by omega)); (try have y7_1_0 : w.heap.size + 1 < w7.heap.size := (by omega)); (try have y7_2_0 : w1.heap.size < w7.heap.size := (by omega))))
  go_wp2
  go_ret
  exact ⟨rfl, by (repeat (first | with_reducible assumption | with_reducible exact Below.refl _ _ | with_reducible apply Below.drew | with_reducible apply below_drewN | with_reducible refine Below.alloc ?_ (by first | omega | (simp <;> omega)) _ | with_reducible refine Below.setCell ?_ (by first | omega | (simp <;> omega)) _ | with_reducible refine Below.trans ?_ (Below.mono (by assumption) (by first | omega | (simp <;> omega)))))⟩
theorem walk_formatFields (f : Int) (l : 0 ≤ f) (u : f ≤ 255) (b t : BitVec 128) (neg : Bool) (e : Int) (_l4 : -9223372036854775808 ≤ e) (_u4 : e ≤ 9223372036854775807) (w : World) (hT : Tab w) :
    Calls Tryd.prog 3 #[.int .u8 f, Bv b, Bv t, .bool neg, .int .i64 e] w fun y w' => y = .returned (.bool true) ∧ Gr w w' :=
  ff_core f l u b t _ _ neg _ e _ _ (Lib.hid ⟨rfl, rfl, rfl⟩) (Lib.hid ⟨rfl, rfl, rfl⟩) (Lib.hid (nBit_toNat _)) (Lib.hid rfl) w hT
end Hb
end Go.Proofs.YtbelighbkjadkaaDoor
