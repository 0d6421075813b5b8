/-
  THE WALK of the law FieldsKnown. Conditions: the table of the formats holds its numbers.
-/
import Derived.Test.YtbkkidgeanogjaaDoorPackAs
namespace Go.Proofs.YtbkkidgeanogjaaDoor
open Go.RowKit
namespace Hb
set_option maxRecDepth 20000
/-- The cells of the law's list of what may not be put together. -/
def badL : List Value := [.bool false, .int .u8 4, .int .i64 0, .int .u64 0, .int .u64 0, .bool false, .int .u8 5, .int .i64 0, .int .u64 9223372036854775808, .int .u64 0, .bool false, .int .u8 2, .int .i64 0, .int .u64 0, .int .u64 0, .bool false, .int .u8 2, .int .i64 16, .int .u64 9223372036854775808, .int .u64 0, .bool false, .int .u8 1, .int .i64 (-25), .int .u64 9223372036854775808, .int .u64 0, .bool false, .int .u8 1, .int .i64 (-24), .int .u64 13835058055282163712, .int .u64 0, .bool false, .int .u8 2, .int .i64 1152921504606846976, .int .u64 9223372036854775808, .int .u64 0, .bool false, .int .u8 2, .int .i64 (-1152921504606846976), .int .u64 9223372036854775808, .int .u64 0]
theorem row_at (W : World) (l : List Value) (t : TypeId) (g i : Nat) (hg : g = W.heap.size) (h : i < l.length) : (W.alloc (.cells l.toArray t)).cell? ⟨g, i, none⟩ = some (l.getD i undef) := by
  subst hg
  simp [go_sem, List.getD_eq_getElem?_getD, h]
theorem wdT : Word 13835058055282163712 := ⟨by decide, by decide⟩
theorem wdE : Word 18437736874454810624 := ⟨by decide, by decide⟩
theorem fk0 (w : World) (hT : Tab w) : Calls Tryd.prog 15 #[.int .u8 0, .agg #[.bool false, .int .u8 4, .int .i64 0, .int .u64 0, .int .u64 0]] w fun x w' => x = .returned (.tuple #[.agg #[.int .u64 0, .int .u64 0], .bool false]) ∧ Gr w w' :=
  pack_hl 0 (by decide) (by decide) false 4 0 _ _ wd0 wd0 0 0 wd0 wd0 false (by decide) (by decide) (Lib.hid (by decide +kernel)) w hT
theorem fk1 (w : World) (hT : Tab w) : Calls Tryd.prog 15 #[.int .u8 0, .agg #[.bool false, .int .u8 5, .int .i64 0, .int .u64 9223372036854775808, .int .u64 0]] w fun x w' => x = .returned (.tuple #[.agg #[.int .u64 0, .int .u64 0], .bool false]) ∧ Gr w w' :=
  pack_hl 0 (by decide) (by decide) false 5 0 _ _ wd127 wd0 0 0 wd0 wd0 false (by decide) (by decide) (Lib.hid (by decide +kernel)) w hT
theorem fk2 (w : World) (hT : Tab w) : Calls Tryd.prog 15 #[.int .u8 0, .agg #[.bool false, .int .u8 2, .int .i64 0, .int .u64 0, .int .u64 0]] w fun x w' => x = .returned (.tuple #[.agg #[.int .u64 0, .int .u64 0], .bool false]) ∧ Gr w w' :=
  pack_hl 0 (by decide) (by decide) false 2 0 _ _ wd0 wd0 0 0 wd0 wd0 false (by decide) (by decide) (Lib.hid (by decide +kernel)) w hT
theorem fk3 (w : World) (hT : Tab w) : Calls Tryd.prog 15 #[.int .u8 0, .agg #[.bool false, .int .u8 2, .int .i64 16, .int .u64 9223372036854775808, .int .u64 0]] w fun x w' => x = .returned (.tuple #[.agg #[.int .u64 0, .int .u64 0], .bool false]) ∧ Gr w w' :=
  pack_hl 0 (by decide) (by decide) false 2 16 _ _ wd127 wd0 0 0 wd0 wd0 false (by decide) (by decide) (Lib.hid (by decide +kernel)) w hT
theorem fk4 (w : World) (hT : Tab w) : Calls Tryd.prog 15 #[.int .u8 0, .agg #[.bool false, .int .u8 1, .int .i64 (-25), .int .u64 9223372036854775808, .int .u64 0]] w fun x w' => x = .returned (.tuple #[.agg #[.int .u64 0, .int .u64 0], .bool false]) ∧ Gr w w' :=
  pack_hl 0 (by decide) (by decide) false 1 (-25) _ _ wd127 wd0 0 0 wd0 wd0 false (by decide) (by decide) (Lib.hid (by decide +kernel)) w hT
theorem fk5 (w : World) (hT : Tab w) : Calls Tryd.prog 15 #[.int .u8 0, .agg #[.bool false, .int .u8 1, .int .i64 (-24), .int .u64 13835058055282163712, .int .u64 0]] w fun x w' => x = .returned (.tuple #[.agg #[.int .u64 0, .int .u64 0], .bool false]) ∧ Gr w w' :=
  pack_hl 0 (by decide) (by decide) false 1 (-24) _ _ wdT wd0 0 0 wd0 wd0 false (by decide) (by decide) (Lib.hid (by decide +kernel)) w hT
theorem fk6 (w : World) (hT : Tab w) : Calls Tryd.prog 15 #[.int .u8 0, .agg #[.bool false, .int .u8 2, .int .i64 1152921504606846976, .int .u64 9223372036854775808, .int .u64 0]] w fun x w' => x = .returned (.tuple #[.agg #[.int .u64 0, .int .u64 0], .bool false]) ∧ Gr w w' :=
  pack_hl 0 (by decide) (by decide) false 2 1152921504606846976 _ _ wd127 wd0 0 0 wd0 wd0 false (by decide) (by decide) (Lib.hid (by decide +kernel)) w hT
theorem fk7 (w : World) (hT : Tab w) : Calls Tryd.prog 15 #[.int .u8 0, .agg #[.bool false, .int .u8 2, .int .i64 (-1152921504606846976), .int .u64 9223372036854775808, .int .u64 0]] w fun x w' => x = .returned (.tuple #[.agg #[.int .u64 0, .int .u64 0], .bool false]) ∧ Gr w w' :=
  pack_hl 0 (by decide) (by decide) false 2 (-1152921504606846976) _ _ wd127 wd0 0 0 wd0 wd0 false (by decide) (by decide) (Lib.hid (by decide +kernel)) w hT
theorem fka (w : World) (hT : Tab w) : Calls Tryd.prog 15 #[.int .u8 0, .agg #[.bool true, .int .u8 1, .int .i64 15, .int .u64 18437736874454810624, .int .u64 0]] w fun x w' => x = .returned (.tuple #[.agg #[.int .u64 0, .int .u64 64511], .bool true]) ∧ Gr w w' :=
  pack_hl 0 (by decide) (by decide) true 1 15 _ _ wdE wd0 0 64511 wd0 ⟨by decide, by decide⟩ true (by decide) (by decide) (Lib.hid (by decide +kernel)) w hT
theorem fkb (w : World) (hT : Tab w) : Calls Tryd.prog 15 #[.int .u8 3, .agg #[.bool false, .int .u8 2, .int .i64 (-16494), .int .u64 9223372036854775808, .int .u64 0]] w fun x w' => x = .returned (.tuple #[.agg #[.int .u64 0, .int .u64 1], .bool true]) ∧ Gr w w' :=
  pack_hl 3 (by decide) (by decide) false 2 (-16494) _ _ wd127 wd0 0 1 wd0 wd1 true (by decide) (by decide) (Lib.hid (by decide +kernel)) w hT
theorem fkc (w : World) (hT : Tab w) : Calls Tryd.prog 15 #[.int .u8 4, .agg #[.bool false, .int .u8 0, .int .i64 0, .int .u64 0, .int .u64 0]] w fun x w' => x = .returned (.tuple #[.agg #[.int .u64 0, .int .u64 0], .bool false]) ∧ Gr w w' :=
  pack_hl 4 (by decide) (by decide) false 0 0 _ _ wd0 wd0 0 0 wd0 wd0 false (by decide) (by decide) (Lib.hid (by decide +kernel)) w hT
theorem fkd (w : World) (hT : Tab w) : Calls Tryd.prog 15 #[.int .u8 1, .agg #[.bool true, .int .u8 0, .int .i64 5, .int .u64 0, .int .u64 0]] w fun x w' => x = .returned (.tuple #[.agg #[.int .u64 0, .int .u64 2147483648], .bool true]) ∧ Gr w w' :=
  pack_hl 1 (by decide) (by decide) true 0 5 _ _ wd0 wd0 0 2147483648 wd0 ⟨by decide, by decide⟩ true (by decide) (by decide) (Lib.hid (by decide +kernel)) w hT
theorem fke (w : World) (hT : Tab w) : Calls Tryd.prog 6 #[.int .u8 4, .agg #[.int .u64 0, .int .u64 7]] w fun x w' => x = .returned (.agg #[.bool false, .int .u8 0, .int .i64 0, .int .u64 0, .int .u64 0]) ∧ Gr w w' :=
  unpack_hl 4 (by decide) (by decide) 0 7 wd0 ⟨by decide, by decide⟩ _ _ _ _ _ wd0 wd0 (Lib.hid (by decide +kernel)) w hT
/-- The worlds of the law's loop. -/
def FkAt (w : World) (wr : World) : Prop :=
  Below w.heap.size w wr ∧ w.heap.size + 1 < wr.heap.size ∧ wr.cell? ⟨w.heap.size, 0, none⟩ = some (.int .u64 9223372036854775808) ∧ wr.cell? ⟨w.heap.size, 1, none⟩ = some (.int .u64 0) ∧ ∀ i, i < 40 → wr.cell? ⟨w.heap.size + 1, i, none⟩ = some (badL.getD i undef)
theorem FkAt.next {w wx wy : World} (h : FkAt w wx) (hb : Below wx.heap.size wx wy) : FkAt w wy := by
  obtain ⟨h0, h1, h2, h3, h4⟩ := h
  exact ⟨h0.trans (hb.mono h0.size), Nat.lt_of_lt_of_le h1 hb.size, (hb.cell (p := ⟨_, _, none⟩) (by show w.heap.size < _; omega)).trans h2, (hb.cell (p := ⟨_, _, none⟩) (by show w.heap.size < _; omega)).trans h3, fun i hi => (hb.cell (p := ⟨_, _, none⟩) h1).trans (h4 i hi)⟩
set_option maxHeartbeats 8000000 in
theorem walk_fieldsKnown (w : World) (hT : Tab w) : Calls Tryd.prog 5 #[] w fun e w' => e = .returned (.bool true) ∧ Gr w w' := by
  have undefd : True := trivial
  have o2_0 : w.heap.size < w.heap.size + 1 + 1 := by omega
  go_enter Tryd.func5, Tryd.ntmps5
  go_wp2
  go_loopw [3] (fun v3 wr => ∃ k : Nat, k ≤ 8 ∧ v3 = .int .i64 k ∧ Hid (FkAt w wr)) (fun v3 _ => 8 - (intOf v3).toNat)
  case atStart =>
    refine ⟨0, Nat.zero_le _, rfl, Lib.hid ⟨by (repeat (first | with_reducible assumption | with_reducible exact Below.refl _ _ | with_reducible apply Below.drew | with_reducible apply below_drewN | with_reducible refine Below.alloc ?_ (by first | omega | (simp <;> omega)) _ | with_reducible refine Below.setCell ?_ (by first | omega | (simp <;> omega)) _ | with_reducible refine Below.trans ?_ (Below.mono (by assumption) (by first | omega | (simp <;> omega))))), by simp <;> omega, by simp [go_sem], by simp [go_sem], fun i hi => ?_⟩⟩
    exact row_at _ badL _ _ i (by simp) hi
  case round =>
    obtain ⟨k, hk, rfl, HR⟩ := hrel
    by_cases hlt : k < 8
    · have HR' := HR.out
      obtain ⟨hbq, l1, l2, l3, l4⟩ := HR'
      have hsq := hbq.size
      obtain ⟨k', hk'⟩ : ∃ k', k' = k + 1 := ⟨_, rfl⟩
      have HK' := Lib.hid hk'
      clear hk'
      have L4 := Lib.hid l4
      clear l4
      rcases (by omega : k = 0 ∨ k = 1 ∨ k = 2 ∨ k = 3 ∨ k = 4 ∨ k = 5 ∨ k = 6 ∨ k = 7) with rfl | rfl | rfl | rfl | rfl | rfl | rfl | rfl
      · have d0 : wr.cell? ⟨w.heap.size + 1, 0, none⟩ = some (Value.bool false) := L4.out 0 (by decide)
        have d1 : wr.cell? ⟨w.heap.size + 1, 1, none⟩ = some (Value.int .u8 4) := L4.out 1 (by decide)
        have d2 : wr.cell? ⟨w.heap.size + 1, 2, none⟩ = some (Value.int .i64 0) := L4.out 2 (by decide)
        have d3 : wr.cell? ⟨w.heap.size + 1, 3, none⟩ = some (Value.int .u64 0) := L4.out 3 (by decide)
        have d4 : wr.cell? ⟨w.heap.size + 1, 4, none⟩ = some (Value.int .u64 0) := L4.out 4 (by decide)

        go_wp2_with (first
          | (go_at_call 15; refine (fk0 _ (hT.below (by (repeat (first | with_reducible assumption | with_reducible exact Below.refl _ _ | with_reducible apply Below.drew | with_reducible apply below_drewN | with_reducible refine Below.alloc ?_ (by first | omega | (simp <;> omega)) _ | with_reducible refine Below.setCell ?_ (by first | omega | (simp <;> omega)) _ | with_reducible refine Below.trans ?_ (Below.mono (by assumption) (by first | omega | (simp <;> omega)))))))).mono ?_; rintro e w3 ⟨rfl, hb3⟩; (try (with_reducible replace hb3 := undrew hb3)); obtain ⟨hc3, hf3⟩ := bcell hb3; have hs3 := hb3.size; (try simp at hs3)))
        go_roundw
        case rel => exact ⟨k', by have := HK'.out; omega, by rw [HK'.out]; go_num, Lib.hid (HR.out.next (by (repeat (first | with_reducible assumption | with_reducible exact Below.refl _ _ | with_reducible apply Below.drew | with_reducible apply below_drewN | with_reducible refine Below.alloc ?_ (by first | omega | (simp <;> omega)) _ | with_reducible refine Below.setCell ?_ (by first | omega | (simp <;> omega)) _ | with_reducible refine Below.trans ?_ (Below.mono (by assumption) (by first | omega | (simp <;> omega)))))))⟩
        case measure => simp [intOf]
      · have d0 : wr.cell? ⟨w.heap.size + 1, 5, none⟩ = some (Value.bool false) := L4.out 5 (by decide)
        have d1 : wr.cell? ⟨w.heap.size + 1, 6, none⟩ = some (Value.int .u8 5) := L4.out 6 (by decide)
        have d2 : wr.cell? ⟨w.heap.size + 1, 7, none⟩ = some (Value.int .i64 0) := L4.out 7 (by decide)
        have d3 : wr.cell? ⟨w.heap.size + 1, 8, none⟩ = some (Value.int .u64 9223372036854775808) := L4.out 8 (by decide)
        have d4 : wr.cell? ⟨w.heap.size + 1, 9, none⟩ = some (Value.int .u64 0) := L4.out 9 (by decide)

        go_wp2_with (first
          | (go_at_call 15; refine (fk1 _ (hT.below (by (repeat (first | with_reducible assumption | with_reducible exact Below.refl _ _ | with_reducible apply Below.drew | with_reducible apply below_drewN | with_reducible refine Below.alloc ?_ (by first | omega | (simp <;> omega)) _ | with_reducible refine Below.setCell ?_ (by first | omega | (simp <;> omega)) _ | with_reducible refine Below.trans ?_ (Below.mono (by assumption) (by first | omega | (simp <;> omega)))))))).mono ?_; rintro e w3 ⟨rfl, hb3⟩; (try (with_reducible replace hb3 := undrew hb3)); obtain ⟨hc3, hf3⟩ := bcell hb3; have hs3 := hb3.size; (try simp at hs3)))
        go_roundw
        case rel => exact ⟨k', by have := HK'.out; omega, by rw [HK'.out]; go_num, Lib.hid (HR.out.next (by (repeat (first | with_reducible assumption | with_reducible exact Below.refl _ _ | with_reducible apply Below.drew | with_reducible apply below_drewN | with_reducible refine Below.alloc ?_ (by first | omega | (simp <;> omega)) _ | with_reducible refine Below.setCell ?_ (by first | omega | (simp <;> omega)) _ | with_reducible refine Below.trans ?_ (Below.mono (by assumption) (by first | omega | (simp <;> omega)))))))⟩
        case measure => simp [intOf]
      · have d0 : wr.cell? ⟨w.heap.size + 1, 10, none⟩ = some (Value.bool false) := L4.out 10 (by decide)
        have d1 : wr.cell? ⟨w.heap.size + 1, 11, none⟩ = some (Value.int .u8 2) := L4.out 11 (by decide)
        have d2 : wr.cell? ⟨w.heap.size + 1, 12, none⟩ = some (Value.int .i64 0) := L4.out 12 (by decide)
        have d3 : wr.cell? ⟨w.heap.size + 1, 13, none⟩ = some (Value.int .u64 0) := L4.out 13 (by decide)
        have d4 : wr.cell? ⟨w.heap.size + 1, 14, none⟩ = some (Value.int .u64 0) := L4.out 14 (by decide)

        go_wp2_with (first
          | (go_at_call 15; refine (fk2 _ (hT.below (by (repeat (first | with_reducible assumption | with_reducible exact Below.refl _ _ | with_reducible apply Below.drew | with_reducible apply below_drewN | with_reducible refine Below.alloc ?_ (by first | omega | (simp <;> omega)) _ | with_reducible refine Below.setCell ?_ (by first | omega | (simp <;> omega)) _ | with_reducible refine Below.trans ?_ (Below.mono (by assumption) (by first | omega | (simp <;> omega)))))))).mono ?_; rintro e w3 ⟨rfl, hb3⟩; (try (with_reducible replace hb3 := undrew hb3)); obtain ⟨hc3, hf3⟩ := bcell hb3; have hs3 := hb3.size; (try simp at hs3)))
        go_roundw
        case rel => exact ⟨k', by have := HK'.out; omega, by rw [HK'.out]; go_num, Lib.hid (HR.out.next (by (repeat (first | with_reducible assumption | with_reducible exact Below.refl _ _ | with_reducible apply Below.drew | with_reducible apply below_drewN | with_reducible refine Below.alloc ?_ (by first | omega | (simp <;> omega)) _ | with_reducible refine Below.setCell ?_ (by first | omega | (simp <;> omega)) _ | with_reducible refine Below.trans ?_ (Below.mono (by assumption) (by first | omega | (simp <;> omega)))))))⟩
        case measure => simp [intOf]
      · have d0 : wr.cell? ⟨w.heap.size + 1, 15, none⟩ = some (Value.bool false) := L4.out 15 (by decide)
        have d1 : wr.cell? ⟨w.heap.size + 1, 16, none⟩ = some (Value.int .u8 2) := L4.out 16 (by decide)
        have d2 : wr.cell? ⟨w.heap.size + 1, 17, none⟩ = some (Value.int .i64 16) := L4.out 17 (by decide)
        have d3 : wr.cell? ⟨w.heap.size + 1, 18, none⟩ = some (Value.int .u64 9223372036854775808) := L4.out 18 (by decide)
        have d4 : wr.cell? ⟨w.heap.size + 1, 19, none⟩ = some (Value.int .u64 0) := L4.out 19 (by decide)

        go_wp2_with (first
          | (go_at_call 15; refine (fk3 _ (hT.below (by (repeat (first | with_reducible assumption | with_reducible exact Below.refl _ _ | with_reducible apply Below.drew | with_reducible apply below_drewN | with_reducible refine Below.alloc ?_ (by first | omega | (simp <;> omega)) _ | with_reducible refine Below.setCell ?_ (by first | omega | (simp <;> omega)) _ | with_reducible refine Below.trans ?_ (Below.mono (by assumption) (by first | omega | (simp <;> omega)))))))).mono ?_; rintro e w3 ⟨rfl, hb3⟩; (try (with_reducible replace hb3 := undrew hb3)); obtain ⟨hc3, hf3⟩ := bcell hb3; have hs3 := hb3.size; (try simp at hs3)))
        go_roundw
        case rel => exact ⟨k', by have := HK'.out; omega, by rw [HK'.out]; go_num, Lib.hid (HR.out.next (by (repeat (first | with_reducible assumption | with_reducible exact Below.refl _ _ | with_reducible apply Below.drew | with_reducible apply below_drewN | with_reducible refine Below.alloc ?_ (by first | omega | (simp <;> omega)) _ | with_reducible refine Below.setCell ?_ (by first | omega | (simp <;> omega)) _ | with_reducible refine Below.trans ?_ (Below.mono (by assumption) (by first | omega | (simp <;> omega)))))))⟩
        case measure => simp [intOf]
      · have d0 : wr.cell? ⟨w.heap.size + 1, 20, none⟩ = some (Value.bool false) := L4.out 20 (by decide)
        have d1 : wr.cell? ⟨w.heap.size + 1, 21, none⟩ = some (Value.int .u8 1) := L4.out 21 (by decide)
        have d2 : wr.cell? ⟨w.heap.size + 1, 22, none⟩ = some (Value.int .i64 (-25)) := L4.out 22 (by decide)
        have d3 : wr.cell? ⟨w.heap.size + 1, 23, none⟩ = some (Value.int .u64 9223372036854775808) := L4.out 23 (by decide)
        have d4 : wr.cell? ⟨w.heap.size + 1, 24, none⟩ = some (Value.int .u64 0) := L4.out 24 (by decide)

        go_wp2_with (first
          | (go_at_call 15; refine (fk4 _ (hT.below (by (repeat (first | with_reducible assumption | with_reducible exact Below.refl _ _ | with_reducible apply Below.drew | with_reducible apply below_drewN | with_reducible refine Below.alloc ?_ (by first | omega | (simp <;> omega)) _ | with_reducible refine Below.setCell ?_ (by first | omega | (simp <;> omega)) _ | with_reducible refine Below.trans ?_ (Below.mono (by assumption) (by first | omega | (simp <;> omega)))))))).mono ?_; rintro e w3 ⟨rfl, hb3⟩; (try (with_reducible replace hb3 := undrew hb3)); obtain ⟨hc3, hf3⟩ := bcell hb3; have hs3 := hb3.size; (try simp at hs3)))
        go_roundw
        case rel => exact ⟨k', by have := HK'.out; omega, by rw [HK'.out]; go_num, Lib.hid (HR.out.next (by (repeat (first | with_reducible assumption | with_reducible exact Below.refl _ _ | with_reducible apply Below.drew | with_reducible apply below_drewN | with_reducible refine Below.alloc ?_ (by first | omega | (simp <;> omega)) _ | with_reducible refine Below.setCell ?_ (by first | omega | (simp <;> omega)) _ | with_reducible refine Below.trans ?_ (Below.mono (by assumption) (by first | omega | (simp <;> omega)))))))⟩
        case measure => simp [intOf]
      · have d0 : wr.cell? ⟨w.heap.size + 1, 25, none⟩ = some (Value.bool false) := L4.out 25 (by decide)
        have d1 : wr.cell? ⟨w.heap.size + 1, 26, none⟩ = some (Value.int .u8 1) := L4.out 26 (by decide)
        have d2 : wr.cell? ⟨w.heap.size + 1, 27, none⟩ = some (Value.int .i64 (-24)) := L4.out 27 (by decide)
        have d3 : wr.cell? ⟨w.heap.size + 1, 28, none⟩ = some (Value.int .u64 13835058055282163712) := L4.out 28 (by decide)
        have d4 : wr.cell? ⟨w.heap.size + 1, 29, none⟩ = some (Value.int .u64 0) := L4.out 29 (by decide)

        go_wp2_with (first
          | (go_at_call 15; refine (fk5 _ (hT.below (by (repeat (first | with_reducible assumption | with_reducible exact Below.refl _ _ | with_reducible apply Below.drew | with_reducible apply below_drewN | with_reducible refine Below.alloc ?_ (by first | omega | (simp <;> omega)) _ | with_reducible refine Below.setCell ?_ (by first | omega | (simp <;> omega)) _ | with_reducible refine Below.trans ?_ (Below.mono (by assumption) (by first | omega | (simp <;> omega)))))))).mono ?_; rintro e w3 ⟨rfl, hb3⟩; (try (with_reducible replace hb3 := undrew hb3)); obtain ⟨hc3, hf3⟩ := bcell hb3; have hs3 := hb3.size; (try simp at hs3)))
        go_roundw
        case rel => exact ⟨k', by have := HK'.out; omega, by rw [HK'.out]; go_num, Lib.hid (HR.out.next (by (repeat (first | with_reducible assumption | with_reducible exact Below.refl _ _ | with_reducible apply Below.drew | with_reducible apply below_drewN | with_reducible refine Below.alloc ?_ (by first | omega | (simp <;> omega)) _ | with_reducible refine Below.setCell ?_ (by first | omega | (simp <;> omega)) _ | with_reducible refine Below.trans ?_ (Below.mono (by assumption) (by first | omega | (simp <;> omega)))))))⟩
        case measure => simp [intOf]
      · have d0 : wr.cell? ⟨w.heap.size + 1, 30, none⟩ = some (Value.bool false) := L4.out 30 (by decide)
        have d1 : wr.cell? ⟨w.heap.size + 1, 31, none⟩ = some (Value.int .u8 2) := L4.out 31 (by decide)
        have d2 : wr.cell? ⟨w.heap.size + 1, 32, none⟩ = some (Value.int .i64 1152921504606846976) := L4.out 32 (by decide)
        have d3 : wr.cell? ⟨w.heap.size + 1, 33, none⟩ = some (Value.int .u64 9223372036854775808) := L4.out 33 (by decide)
        have d4 : wr.cell? ⟨w.heap.size + 1, 34, none⟩ = some (Value.int .u64 0) := L4.out 34 (by decide)

        go_wp2_with (first
          | (go_at_call 15; refine (fk6 _ (hT.below (by (repeat (first | with_reducible assumption | with_reducible exact Below.refl _ _ | with_reducible apply Below.drew | with_reducible apply below_drewN | with_reducible refine Below.alloc ?_ (by first | omega | (simp <;> omega)) _ | with_reducible refine Below.setCell ?_ (by first | omega | (simp <;> omega)) _ | with_reducible refine Below.trans ?_ (Below.mono (by assumption) (by first | omega | (simp <;> omega)))))))).mono ?_; rintro e w3 ⟨rfl, hb3⟩; (try (with_reducible replace hb3 := undrew hb3)); obtain ⟨hc3, hf3⟩ := bcell hb3; have hs3 := hb3.size; (try simp at hs3)))
        go_roundw
        case rel => exact ⟨k', by have := HK'.out; omega, by rw [HK'.out]; go_num, Lib.hid (HR.out.next (by (repeat (first | with_reducible assumption | with_reducible exact Below.refl _ _ | with_reducible apply Below.drew | with_reducible apply below_drewN | with_reducible refine Below.alloc ?_ (by first | omega | (simp <;> omega)) _ | with_reducible refine Below.setCell ?_ (by first | omega | (simp <;> omega)) _ | with_reducible refine Below.trans ?_ (Below.mono (by assumption) (by first | omega | (simp <;> omega)))))))⟩
        case measure => simp [intOf]
      · have d0 : wr.cell? ⟨w.heap.size + 1, 35, none⟩ = some (Value.bool false) := L4.out 35 (by decide)
        have d1 : wr.cell? ⟨w.heap.size + 1, 36, none⟩ = some (Value.int .u8 2) := L4.out 36 (by decide)
        have d2 : wr.cell? ⟨w.heap.size + 1, 37, none⟩ = some (Value.int .i64 (-1152921504606846976)) := L4.out 37 (by decide)
        have d3 : wr.cell? ⟨w.heap.size + 1, 38, none⟩ = some (Value.int .u64 9223372036854775808) := L4.out 38 (by decide)
        have d4 : wr.cell? ⟨w.heap.size + 1, 39, none⟩ = some (Value.int .u64 0) := L4.out 39 (by decide)

        go_wp2_with (first
          | (go_at_call 15; refine (fk7 _ (hT.below (by (repeat (first | with_reducible assumption | with_reducible exact Below.refl _ _ | with_reducible apply Below.drew | with_reducible apply below_drewN | with_reducible refine Below.alloc ?_ (by first | omega | (simp <;> omega)) _ | with_reducible refine Below.setCell ?_ (by first | omega | (simp <;> omega)) _ | with_reducible refine Below.trans ?_ (Below.mono (by assumption) (by first | omega | (simp <;> omega)))))))).mono ?_; rintro e w3 ⟨rfl, hb3⟩; (try (with_reducible replace hb3 := undrew hb3)); obtain ⟨hc3, hf3⟩ := bcell hb3; have hs3 := hb3.size; (try simp at hs3)))
        go_roundw
        case rel => exact ⟨k', by have := HK'.out; omega, by rw [HK'.out]; go_num, Lib.hid (HR.out.next (by (repeat (first | with_reducible assumption | with_reducible exact Below.refl _ _ | with_reducible apply Below.drew | with_reducible apply below_drewN | with_reducible refine Below.alloc ?_ (by first | omega | (simp <;> omega)) _ | with_reducible refine Below.setCell ?_ (by first | omega | (simp <;> omega)) _ | with_reducible refine Below.trans ?_ (Below.mono (by assumption) (by first | omega | (simp <;> omega)))))))⟩
        case measure => simp [intOf]
    · obtain rfl : k = 8 := by omega
      obtain ⟨hbq, l1, l2, l3, l4⟩ := HR.out
      have hsq := hbq.size
      have hz0 : w.heap.size < wr.heap.size := by omega
      clear l4


      go_wp2_with (first
        | (go_at_call_of 15 (Value.int IntKind.i64 15); refine (fka _ (hT.below (by (repeat (first | with_reducible assumption | with_reducible exact Below.refl _ _ | with_reducible apply Below.drew | with_reducible apply below_drewN | with_reducible refine Below.alloc ?_ (by first | omega | (simp <;> omega)) _ | with_reducible refine Below.setCell ?_ (by first | omega | (simp <;> omega)) _ | with_reducible refine Below.trans ?_ (Below.mono (by assumption) (by first | omega | (simp <;> omega)))))))).mono ?_; rintro e w4 ⟨rfl, hb4⟩; (try (with_reducible replace hb4 := undrew hb4)); obtain ⟨hc4, hf4⟩ := bcell hb4; have hs4 := hb4.size; (try simp at hs4); (try have y4_0_0 : w.heap.size < w4.heap.size := (by omega)); (try have y4_0_1 : w.heap.size < w4.heap.size + 1 := (by omega)))
        | (go_at_call_of 15 (Value.int IntKind.u8 3); refine (fkb _ (hT.below (by (repeat (first | with_reducible assumption | with_reducible exact Below.refl _ _ | with_reducible apply Below.drew | with_reducible apply below_drewN | with_reducible refine Below.alloc ?_ (by first | omega | (simp <;> omega)) _ | with_reducible refine Below.setCell ?_ (by first | omega | (simp <;> omega)) _ | with_reducible refine Below.trans ?_ (Below.mono (by assumption) (by first | omega | (simp <;> omega)))))))).mono ?_; rintro e w5 ⟨rfl, hb5⟩; (try (with_reducible replace hb5 := undrew hb5)); obtain ⟨hc5, hf5⟩ := bcell hb5; have hs5 := hb5.size; (try simp at hs5); (try have y5_0_0 : w.heap.size < w5.heap.size := (by omega)); (try have y5_0_1 : w.heap.size < w5.heap.size + 1 := (by omega)); (try have y5_1_0 : w4.heap.size < w5.heap.size := (by omega)); (try have y5_1_1 : w4.heap.size < w5.heap.size + 1 := (by omega)))
        | (go_at_call_of 15 (Value.int IntKind.u8 4); refine (fkc _ (hT.below (by (repeat (first | with_reducible assumption | with_reducible exact Below.refl _ _ | with_reducible apply Below.drew | with_reducible apply below_drewN | with_reducible refine Below.alloc ?_ (by first | omega | (simp <;> omega)) _ | with_reducible refine Below.setCell ?_ (by first | omega | (simp <;> omega)) _ | with_reducible refine Below.trans ?_ (Below.mono (by assumption) (by first | omega | (simp <;> omega)))))))).mono ?_; rintro e w6 ⟨rfl, hb6⟩; (try (with_reducible replace hb6 := undrew hb6)); obtain ⟨hc6, hf6⟩ := bcell hb6; have hs6 := hb6.size; (try simp at hs6); (try have y6_0_0 : w.heap.size < w6.heap.size := (by omega)); (try have y6_0_1 : w.heap.size < w6.heap.size + 1 := (by omega)); (try have y6_1_0 : w4.heap.size < w6.heap.size := (by omega)); (try have y6_1_1 : w4.heap.size < w6.heap.size + 1 := (by omega)); (try have y6_2_0 : w5.heap.size < w6.heap.size := (by omega)); (try have y6_2_1 : w5.heap.size < w6.heap.size + 1 := (by omega)))
        | (go_at_call_of 15 (Value.int IntKind.i64 5); refine (fkd _ (hT.below (by (repeat (first | with_reducible assumption | with_reducible exact Below.refl _ _ | with_reducible apply Below.drew | with_reducible apply below_drewN | with_reducible refine Below.alloc ?_ (by first | omega | (simp <;> omega)) _ | with_reducible refine Below.setCell ?_ (by first | omega | (simp <;> omega)) _ | with_reducible refine Below.trans ?_ (Below.mono (by assumption) (by first | omega | (simp <;> omega)))))))).mono ?_; rintro e w7 ⟨rfl, hb7⟩; (try (with_reducible replace hb7 := undrew hb7)); obtain ⟨hc7, hf7⟩ := bcell hb7; have hs7 := hb7.size; (try simp at hs7); (try have y7_0_0 : w.heap.size < w7.heap.size := (by omega)); (try have y7_0_1 : w.heap.size < w7.heap.size + 1 := (by omega)); (try have y7_1_0 : w4.heap.size < w7.heap.size := (by omega)); (try have y7_1_1 : w4.heap.size < w7.heap.size + 1 := (by omega)); (try have y7_2_0 : w5.heap.size < w7.heap.size := (by omega)); (try have y7_2_1 : w5.heap.size < w7.heap.size + 1 := (by omega)); (try have y7_3_0 : w6.heap.size < w7.heap.size := (by omega)); (try have y7_3_1 : w6.heap.size < w7.heap.size + 1 := (by omega)))
        | (go_at_call 6; refine (fke _ (hT.below (by (repeat (first | with_reducible assumption | with_reducible exact Below.refl _ _ | with_reducible apply Below.drew | with_reducible apply below_drewN | with_reducible refine Below.alloc ?_ (by first | omega | (simp <;> omega)) _ | with_reducible refine Below.setCell ?_ (by first | omega | (simp <;> omega)) _ | with_reducible refine Below.trans ?_ (Below.mono (by assumption) (by first | omega | (simp <;> omega)))))))).mono ?_; rintro e w8 ⟨rfl, hb8⟩; (try (with_reducible replace hb8 := undrew hb8)); obtain ⟨hc8, hf8⟩ := bcell hb8; have hs8 := hb8.size; (try simp at hs8); (try have y8_0_0 : w.heap.size < w8.heap.size := (by omega)); (try have y8_1_0 : w4.heap.size < w8.heap.size := (by omega)); (try have y8_2_0 : w5.heap.size < w8.heap.size := (by omega)); (try have y8_3_0 : w6.heap.size < w8.heap.size := (by omega)); (try have y8_4_0 : w7.heap.size < w8.heap.size := (by omega)))
        | (go_at_call 8; refine (goes9_any _ (hT.below (by (repeat (first | with_reducible assumption | with_reducible exact Below.refl _ _ | with_reducible apply Below.drew | with_reducible apply below_drewN | with_reducible refine Below.alloc ?_ (by first | omega | (simp <;> omega)) _ | with_reducible refine Below.setCell ?_ (by first | omega | (simp <;> omega)) _ | with_reducible refine Below.trans ?_ (Below.mono (by assumption) (by first | omega | (simp <;> omega)))))))).mono ?_; rintro e w9 ⟨rfl, hb9⟩; (try (with_reducible replace hb9 := undrew hb9)); obtain ⟨hc9, hf9⟩ := bcell hb9; have hs9 := hb9.size; (try simp at hs9); (try have y9_0_0 : w.heap.size < w9.heap.size := (by omega)); (try have y9_1_0 : w4.heap.size < w9.heap.size := (by omega)); (try have y9_2_0 : w5.heap.size < w9.heap.size := (by omega)); (try have y9_3_0 : w6.heap.size < w9.heap.size := (by omega)); (try have y9_4_0 : w7.heap.size < w9.heap.size := (by omega))))
      go_ret
      exact ⟨rfl, by (repeat (first | with_reducible assumption | with_reducible exact Below.refl _ _ | with_reducible apply Below.drew | with_reducible apply below_drewN | with_reducible refine Below.alloc ?_ (by first | omega | (simp <;> omega)) _ | with_reducible refine Below.setCell ?_ (by first | omega | (simp <;> omega)) _ | with_reducible refine Below.trans ?_ (Below.mono (by assumption) (by first | omega | (simp <;> omega)))))⟩
end Hb
end Go.Proofs.YtbkkidgeanogjaaDoor
