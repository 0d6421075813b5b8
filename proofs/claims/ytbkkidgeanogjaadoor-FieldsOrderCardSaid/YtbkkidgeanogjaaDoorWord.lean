/-
  THE WALKS of package word (and of what it calls of the library): each function hands back what the plain part says; what stood in memory stands. Conditions: none but the arguments' kinds.
-/
import Derived.Test.YtbkkidgeanogjaaDoorProg
import Derived.Test.YtbkkidgeanogjaaDoorPlain
import Derived.WalkKit
import Derived.WalkSpells
import Derived.WalkLawsBesides
import Derived.StillTactics
import Derived.Laws.Pointers
import Derived.Laws.Externs
import Derived.Deep.RegionHeld3
import Derived.RowKit3
namespace Go.Proofs.YtbkkidgeanogjaaDoor
open Go.RowKit
namespace Hb

/-- A value of 128 bits, a value of 256 bits. -/
abbrev Bv (x : BitVec 128) : Value := .agg #[.int .u64 (hiB x), .int .u64 (loB x)]
abbrev Wv (x : BitVec 256) : Value := .agg #[.int .u64 (wq0 x), .int .u64 (wq1 x), .int .u64 (wq2 x), .int .u64 (wq3 x)]

/-- What stood stands; new blocks. -/
abbrev Gr (w w' : World) : Prop := Below w.heap.size w w'

theorem bcell {W w1 : World} (hb : Below W.heap.size W w1) : (∀ b o, b < W.heap.size → w1.cell? ⟨b, o, none⟩ = W.cell? ⟨b, o, none⟩) ∧ (∀ b o, b < W.heap.size → w1.frozen? ⟨b, o, none⟩ = W.frozen? ⟨b, o, none⟩) :=
  ⟨fun b o h => hb.cell (p := ⟨b, o, none⟩) h, fun b o h => hb.frozen (p := ⟨b, o, none⟩) h⟩

theorem undrew {W w1 : World} (h : Below W.drew.heap.size W.drew w1) : Below W.heap.size W w1 := ⟨h.os, h.tape, h.output, h.size, h.block⟩

theorem add64 (x y c : Int) (hx : 0 ≤ x) (hy : 0 ≤ y) (hc0 : 0 ≤ c) (hc : c ≤ 1) (hx' : x < 18446744073709551616) (hy' : y < 18446744073709551616) (w : World) : (callFunc 46 #[.int .u64 x, .int .u64 y, .int .u64 c]).run Tryd.prog w =
    .ok (.value (.tuple #[.int .u64 ((x + y + c) % 18446744073709551616), .int .u64 ((x + y + c) / 18446744073709551616)])) w := by
  obtain ⟨x, rfl⟩ := Int.eq_ofNat_of_zero_le hx
  obtain ⟨y, rfl⟩ := Int.eq_ofNat_of_zero_le hy
  obtain ⟨c, rfl⟩ := Int.eq_ofNat_of_zero_le hc0
  rw [run_callFunc_extern Tryd.func46 (by kernel_rfl) (by kernel_rfl) (by kernel_rfl) (e := add64Entry) (by kernel_rfl), run_add64 x y c (by omega) (by omega) (by omega) (by omega)]
  rfl
theorem add64_0 (x y : Int) (hx : 0 ≤ x) (hy : 0 ≤ y) (hx' : x < 18446744073709551616) (hy' : y < 18446744073709551616) (w : World) : (callFunc 46 #[.int .u64 x, .int .u64 y, .int .u64 0]).run Tryd.prog w =
    .ok (.value (.tuple #[.int .u64 ((x + y) % 18446744073709551616), .int .u64 ((x + y) / 18446744073709551616)])) w := by
  simpa using add64 x y 0 hx hy (Int.le_refl 0) (by decide) hx' hy' w

theorem cmpU (x y : Int) (w : World) : Calls Tryd.prog 26 #[.int .u64 x, .int .u64 y] w fun e w' => e = .returned (.int .i64 (cmpI x y)) ∧ w = w' := by
  by_cases h1 : x < y
  · have e1 : cmpI x y = -1 := by unfold cmpI; rw [if_pos h1]
    rw [e1]
    go_enter Tryd.func26, Tryd.ntmps26
    go_wp2
    go_ret
    exact ⟨rfl, rfl⟩
  · by_cases h2 : y < x
    · have e1 : cmpI x y = 1 := by unfold cmpI; rw [if_neg h1, if_pos h2]
      rw [e1]
      go_enter Tryd.func26, Tryd.ntmps26
      go_wp2
      go_ret
      exact ⟨rfl, rfl⟩
    · have e1 : cmpI x y = 0 := by unfold cmpI; rw [if_neg h1, if_neg h2]
      rw [e1]
      go_enter Tryd.func26, Tryd.ntmps26
      go_wp2
      go_ret
      exact ⟨rfl, rfl⟩

theorem first2 (a c : Int) (b : Nat) (w : World) (h0 : w.cell? ⟨b, 0, none⟩ = some (.int .i64 a)) (h1 : w.cell? ⟨b, 1, none⟩ = some (.int .i64 c)) :
    Calls Tryd.prog 25 #[.slice (some ⟨b, 0, none⟩) 2 2] w fun e w' => e = .returned (.int .i64 (fst0 a c)) ∧ w = w' := by
  by_cases ha : a = 0
  · subst ha
    rw [show fst0 0 c = c from if_pos rfl]
    by_cases hc : c = 0
    · subst hc
      go_enter Tryd.func25, Tryd.ntmps25
      go_wp2
      refine wp_loop_rounds 3 ?_
      rw [rounds_succ]
      go_wp2
      rw [rounds_succ]
      go_wp2
      rw [rounds_succ]
      go_wp2
      go_ret
      exact ⟨rfl, rfl⟩
    · have hc' : (c != 0) = true := by simpa using hc
      go_enter Tryd.func25, Tryd.ntmps25
      go_wp2
      refine wp_loop_rounds 3 ?_
      rw [rounds_succ]
      go_wp2
      rw [rounds_succ]
      go_wp2
      go_ret
      exact ⟨rfl, rfl⟩
  · have ha' : (a != 0) = true := by simpa using ha
    rw [show fst0 a c = a from if_neg ha]
    go_enter Tryd.func25, Tryd.ntmps25
    go_wp2
    refine wp_loop_rounds 3 ?_
    rw [rounds_succ]
    go_wp2
    go_ret
    exact ⟨rfl, rfl⟩

theorem add_any (x y : BitVec 128) (w : World) :
    Calls Tryd.prog 20 #[Bv x, Bv y] w fun e w' => e = .returned (.tuple #[Bv (bAdd x y), .bool (bCarry x y)]) ∧ Gr w w' := by
  obtain ⟨a1, a2⟩ := hiB_word x; obtain ⟨b1, b2⟩ := loB_word x; obtain ⟨c1, c2⟩ := hiB_word y; obtain ⟨d1, d2⟩ := loB_word y
  simp only [Bv]
  rw [add_carry, add_lo, add_hi]
  generalize hiB x = xh at *; generalize loB x = xl at *; generalize hiB y = yh at *; generalize loB y = yl at *
  have k0 : 0 ≤ (xl + yl) / 18446744073709551616 := by omega
  have k1 : (xl + yl) / 18446744073709551616 ≤ 1 := by omega
  go_enter Tryd.func20, Tryd.ntmps20
  go_wp2_with (first | simp only [add64_0 xl yl b1 d1 b2 d2] | simp only [add64 xh yh _ a1 c1 k0 k1 a2 c2])
  simp [bodyPost, results, Tryd.results20, go_sem]
  exact (((Below.refl _ _).alloc (Nat.le_refl _) _).alloc (by simp) _).alloc (by simp <;> omega) _
theorem zero_core (xh xl : Int) (r : Bool) (h : (r = false ∧ (xh == 0) = false) ∨ (r = false ∧ (xh == 0) = true ∧ (xl == 0) = false) ∨ (r = true ∧ xh = 0 ∧ xl = 0)) (w : World) :
    Calls Tryd.prog 43 #[.agg #[.int .u64 xh, .int .u64 xl]] w fun e w' => e = .returned (.bool r) ∧ Gr w w' := by
  rcases h with ⟨rfl, h1⟩ | ⟨rfl, h1, h2⟩ | ⟨rfl, rfl, rfl⟩
  · go_enter Tryd.func43, Tryd.ntmps43
    go_wp2
    go_ret
    exact ⟨rfl, (Below.refl _ _).alloc (Nat.le_refl _) _⟩
  · obtain rfl : xh = 0 := by simpa using h1
    clear h1
    go_enter Tryd.func43, Tryd.ntmps43
    go_wp2
    go_ret
    exact ⟨rfl, (Below.refl _ _).alloc (Nat.le_refl _) _⟩
  · go_enter Tryd.func43, Tryd.ntmps43
    go_wp2
    go_ret
    exact ⟨rfl, (Below.refl _ _).alloc (Nat.le_refl _) _⟩
theorem zero_any (x : BitVec 128) (w : World) :
    Calls Tryd.prog 43 #[Bv x] w fun e w' => e = .returned (.bool (bZero x)) ∧ Gr w w' := by
  rw [zero_hl]
  refine zero_core (hiB x) (loB x) _ ?_ w
  by_cases h1 : hiB x = 0
  · by_cases h2 : loB x = 0
    · exact .inr (.inr ⟨by simp [h1, h2], h1, h2⟩)
    · exact .inr (.inl ⟨by simp [h2], by simpa using h1, by simpa using h2⟩)
  · exact .inl ⟨by simp [h1], by simpa using h1⟩
theorem cmp_any (x y : BitVec 128) (w : World) :
    Calls Tryd.prog 9 #[Bv x, Bv y] w fun e w' => e = .returned (.int .i64 (bCmp x y)) ∧ Gr w w' := by
  rw [cmp_hl]
  simp only [Bv]
  generalize hiB x = xh at *; generalize loB x = xl at *; generalize hiB y = yh at *; generalize loB y = yl at *
  go_enter Tryd.func9, Tryd.ntmps9
  go_wp2
  go_region_held3 (fun w' => w'.cell? ⟨w.heap.size, 0, none⟩ = some (.int .u64 xh) ∧ w'.cell? ⟨w.heap.size, 1, none⟩ = some (.int .u64 xl) ∧ w'.cell? ⟨w.heap.size + 1, 0, none⟩ = some (.int .u64 yh) ∧ w'.cell? ⟨w.heap.size + 1, 1, none⟩ = some (.int .u64 yl)) (simp [go_sem, World.cell?_alloc_past])
    (first
      | (go_at_call 26; refine (cmpU _ _ _).mono ?_; rintro e w' ⟨rfl, rfl⟩)
      | (go_at_call 25; refine (first2 (cmpI xh yh) (cmpI xl yl) _ _ (by simp [go_sem]) (by simp [go_sem])).mono ?_; rintro e w' ⟨rfl, rfl⟩))
  go_wp2
  go_ret
  exact ⟨rfl, by repeat (first | exact Below.refl _ _ | apply Below.drew | refine Below.alloc ?_ (by simp <;> omega) _)⟩
end Hb
end Go.Proofs.YtbkkidgeanogjaaDoor
