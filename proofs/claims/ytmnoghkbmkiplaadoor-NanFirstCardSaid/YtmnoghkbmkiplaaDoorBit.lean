/-
  THE WALKS of package word and shift: single bits and shifts.
-/
import Derived.Test.YtmnoghkbmkiplaaDoorWord
import Derived.Test.YtmnoghkbmkiplaaDoorShiftPlain
namespace Go.Proofs.YtmnoghkbmkiplaaDoor
open Go.RowKit
namespace Hb

theorem part_any (i : Int) (bx b : Nat) (a0 a1 : Int) (w : World) (hc : w.cell? ⟨bx, 0, none⟩ = some (.slice (some ⟨b, 0, none⟩) 2 2)) (h0 : w.cell? ⟨b, 0, none⟩ = some (.int .u64 a0)) (h1 : w.cell? ⟨b, 1, none⟩ = some (.int .u64 a1)) :
    Calls Tryd.prog 33 #[.int .i64 i, .pointer (some ⟨bx, 0, none⟩)] w fun e w' => e = .returned (.int .u64 (sel2 a0 a1 i)) ∧ w = w' := by
  by_cases hn : i < 0
  · have e1 : sel2 a0 a1 i = 0 := by unfold sel2; rw [if_neg (by omega), if_neg (by omega)]
    rw [e1]
    go_enter Tryd.func33, Tryd.ntmps33
    go_wp2
    go_ret
    exact ⟨rfl, rfl⟩
  by_cases hn2 : 2 ≤ i
  · have e1 : sel2 a0 a1 i = 0 := by unfold sel2; rw [if_neg (by omega), if_neg (by omega)]
    rw [e1]
    go_enter Tryd.func33, Tryd.ntmps33
    go_wp2
    go_ret
    exact ⟨rfl, rfl⟩
  have hi : i = 0 ∨ i = 1 := by omega
  clear hn hn2
  rcases hi with rfl | rfl
  · rw [show sel2 a0 a1 0 = a0 from rfl]
    go_enter Tryd.func33, Tryd.ntmps33
    go_wp2
    go_ret
    exact ⟨rfl, rfl⟩
  · rw [show sel2 a0 a1 1 = a1 from rfl]
    go_enter Tryd.func33, Tryd.ntmps33
    go_wp2
    go_ret
    exact ⟨rfl, rfl⟩

theorem two_any (b : Nat) (a0 a1 : Int) (w : World) (h0 : w.cell? ⟨b, 0, none⟩ = some (.int .u64 a0)) (h1 : w.cell? ⟨b, 1, none⟩ = some (.int .u64 a1)) :
    Calls Tryd.prog 29 #[.slice (some ⟨b, 0, none⟩) 2 2] w fun e w' => e = .returned (.agg #[.int .u64 a1, .int .u64 a0]) ∧ Gr w w' := by
  have hb : b < w.heap.size := by
    by_cases h : b < w.heap.size
    · exact h
    · rw [World.cell?, Array.getElem?_eq_none (by simpa using h)] at h0; cases h0
  go_enter Tryd.func29, Tryd.ntmps29
  go_wp2
  go_region_held3 (fun w' => w'.cell? ⟨b, 0, none⟩ = some (.int .u64 a0) ∧ w'.cell? ⟨b, 1, none⟩ = some (.int .u64 a1)) (simp [go_sem, World.cell?_alloc_past, *])
    (fail)
  go_wp2
  simp [bodyPost, results, Tryd.results29, go_sem]
  exact ((Below.refl _ _).alloc (Nat.le_refl _) _).drew

/-- The move itself, at words that are variables. -/
theorem moved_core (b : Nat) (a0 a1 n : Int) (w : World) (hn1 : -128 < n) (hn2 : n < 128) (hb : b < w.heap.size) (h0 : w.cell? ⟨b, 0, none⟩ = some (.int .u64 a0)) (h1 : w.cell? ⟨b, 1, none⟩ = some (.int .u64 a1)) :
    Calls Tryd.prog 27 #[.slice (some ⟨b, 0, none⟩) 2 2, .int .i64 n, .func (.func 29) #[] #[]] w fun e w' => e = .returned (.agg #[
      .int .u64 (bits BinOp.or IntKind.u64 (IntKind.u64.wrap (sel2 a0 a1 (1 - n / 64) * 2 ^ (n % 64).toNat)) (sel2 a0 a1 (1 - n / 64 - 1) / 2 / 2 ^ (63 - n % 64).toNat)),
      .int .u64 (bits BinOp.or IntKind.u64 (IntKind.u64.wrap (sel2 a0 a1 (-(n / 64)) * 2 ^ (n % 64).toNat)) (sel2 a0 a1 (-(n / 64) - 1) / 2 / 2 ^ (63 - n % 64).toNat))]) ∧ Gr w w' := by
  have hmf : ∀ (fn : Fn) (first cap : Array Value) (w : World), (Instr.makeFunc fn first cap).run Tryd.prog w = .ok (.func fn first cap) w := fun _ _ _ _ => rfl
  have hmk : ∀ w, (Instr.makeSlice 52 (.int .i64 2) (.int .i64 2)).run Tryd.prog w = .ok (.slice (some ⟨w.heap.size, 0, none⟩) 2 2) (w.alloc (.cells #[.int .u64 0, .int .u64 0] 24)) := fun _ => by kernel_rfl
  have hand := and63 n (by omega) (by omega)
  have g0 : 0 ≤ n % 64 := by omega
  have g1 : n % 64 ≤ 63 := by omega
  go_enter Tryd.func27, Tryd.ntmps27
  go_wp2
  refine wp_loop_rounds 3 ?_
  rw [rounds_succ]
  go_wp2_with (first
    | (go_at_call 33; refine (part_any _ _ b a0 a1 _ ?_ ((Below.cell (B := w.heap.size) (p := ⟨b, 0, none⟩) (by (repeat (first | exact Below.refl _ _ | assumption | apply Below.drew | apply below_drewN | refine Below.alloc ?_ (by first | omega | (simp <;> omega)) _ | refine Below.setCell ?_ (by first | omega | (simp <;> omega)) _ | refine Below.trans ?_ (Below.mono (by assumption) (by first | omega | (simp <;> omega)))))) hb).trans h0) ((Below.cell (B := w.heap.size) (p := ⟨b, 1, none⟩) (by (repeat (first | exact Below.refl _ _ | assumption | apply Below.drew | apply below_drewN | refine Below.alloc ?_ (by first | omega | (simp <;> omega)) _ | refine Below.setCell ?_ (by first | omega | (simp <;> omega)) _ | refine Below.trans ?_ (Below.mono (by assumption) (by first | omega | (simp <;> omega)))))) hb).trans h1)).mono ?_; (simp [go_sem]); rintro e w' ⟨rfl, rfl⟩))
  rw [rounds_succ]
  go_wp2_with (first
    | (go_at_call 33; refine (part_any _ _ b a0 a1 _ ?_ ((Below.cell (B := w.heap.size) (p := ⟨b, 0, none⟩) (by (repeat (first | exact Below.refl _ _ | assumption | apply Below.drew | apply below_drewN | refine Below.alloc ?_ (by first | omega | (simp <;> omega)) _ | refine Below.setCell ?_ (by first | omega | (simp <;> omega)) _ | refine Below.trans ?_ (Below.mono (by assumption) (by first | omega | (simp <;> omega)))))) hb).trans h0) ((Below.cell (B := w.heap.size) (p := ⟨b, 1, none⟩) (by (repeat (first | exact Below.refl _ _ | assumption | apply Below.drew | apply below_drewN | refine Below.alloc ?_ (by first | omega | (simp <;> omega)) _ | refine Below.setCell ?_ (by first | omega | (simp <;> omega)) _ | refine Below.trans ?_ (Below.mono (by assumption) (by first | omega | (simp <;> omega)))))) hb).trans h1)).mono ?_; (simp [go_sem]); rintro e w' ⟨rfl, rfl⟩))
  rw [rounds_succ]
  go_wp2_with (first
    | (go_at_call 29; refine (two_any _ _ _ _ (by simp [go_sem]; rfl) (by simp [go_sem]; rfl)).mono ?_; rintro e w1 ⟨rfl, hb1⟩; obtain ⟨hc, hf⟩ := bcell hb1; have hz := hb1.size; simp at hz))
  simp [bodyPost, results, Tryd.results27, go_sem, hc]
  (repeat (first | exact Below.refl _ _ | assumption | apply Below.drew | apply below_drewN | refine Below.alloc ?_ (by first | omega | (simp <;> omega)) _ | refine Below.setCell ?_ (by first | omega | (simp <;> omega)) _ | refine Below.trans ?_ (Below.mono (by assumption) (by first | omega | (simp <;> omega)))))

theorem part_zero (i : Int) (bx b : Nat) (a0 a1 : Int) (w : World) (hi : i < 0 ∨ 2 ≤ i) (hc : w.cell? ⟨bx, 0, none⟩ = some (.slice (some ⟨b, 0, none⟩) 2 2)) (h0 : w.cell? ⟨b, 0, none⟩ = some (.int .u64 a0)) (h1 : w.cell? ⟨b, 1, none⟩ = some (.int .u64 a1)) :
    Calls Tryd.prog 33 #[.int .i64 i, .pointer (some ⟨bx, 0, none⟩)] w fun e w' => e = .returned (.int .u64 0) ∧ w = w' := by
  have h := part_any i bx b a0 a1 w hc h0 h1
  rw [show sel2 a0 a1 i = 0 by unfold sel2; rw [if_neg (by omega), if_neg (by omega)]] at h
  exact h

set_option maxHeartbeats 1600000 in
theorem moved_top (b : Nat) (a0 a1 n : Int) (w : World) (hn1 : 128 ≤ n) (hb : b < w.heap.size) (h0 : w.cell? ⟨b, 0, none⟩ = some (.int .u64 a0)) (h1 : w.cell? ⟨b, 1, none⟩ = some (.int .u64 a1)) :
    Calls Tryd.prog 27 #[.slice (some ⟨b, 0, none⟩) 2 2, .int .i64 n, .func (.func 29) #[] #[]] w fun e w' => e = .returned (.agg #[.int .u64 0, .int .u64 0]) ∧ Gr w w' := by
  have hmf : ∀ (fn : Fn) (first cap : Array Value) (w : World), (Instr.makeFunc fn first cap).run Tryd.prog w = .ok (.func fn first cap) w := fun _ _ _ _ => rfl
  have hmk : ∀ w, (Instr.makeSlice 52 (.int .i64 2) (.int .i64 2)).run Tryd.prog w = .ok (.slice (some ⟨w.heap.size, 0, none⟩) 2 2) (w.alloc (.cells #[.int .u64 0, .int .u64 0] 24)) := fun _ => by kernel_rfl
  have h128 : IntKind.u64.wrap (bits BinOp.and IntKind.i64 128 63) = 0 := by decide +kernel
  have hor : bits BinOp.or IntKind.u64 0 0 = 0 := by decide +kernel
  go_enter Tryd.func27, Tryd.ntmps27
  go_wp2
  all_goals
    refine wp_loop_rounds 3 ?_
    rw [rounds_succ]
    go_wp2_with (first | (go_at_call 33; refine (part_zero _ _ b a0 a1 _ (by omega) ?_ ((Below.cell (B := w.heap.size) (p := ⟨b, 0, none⟩) (by (repeat (first | exact Below.refl _ _ | assumption | apply Below.drew | apply below_drewN | refine Below.alloc ?_ (by first | omega | (simp <;> omega)) _ | refine Below.setCell ?_ (by first | omega | (simp <;> omega)) _ | refine Below.trans ?_ (Below.mono (by assumption) (by first | omega | (simp <;> omega)))))) hb).trans h0) ((Below.cell (B := w.heap.size) (p := ⟨b, 1, none⟩) (by (repeat (first | exact Below.refl _ _ | assumption | apply Below.drew | apply below_drewN | refine Below.alloc ?_ (by first | omega | (simp <;> omega)) _ | refine Below.setCell ?_ (by first | omega | (simp <;> omega)) _ | refine Below.trans ?_ (Below.mono (by assumption) (by first | omega | (simp <;> omega)))))) hb).trans h1)).mono ?_; (simp [go_sem]); rintro e w' ⟨rfl, rfl⟩))
    rw [rounds_succ]
    go_wp2_with (first | (go_at_call 33; refine (part_zero _ _ b a0 a1 _ (by omega) ?_ ((Below.cell (B := w.heap.size) (p := ⟨b, 0, none⟩) (by (repeat (first | exact Below.refl _ _ | assumption | apply Below.drew | apply below_drewN | refine Below.alloc ?_ (by first | omega | (simp <;> omega)) _ | refine Below.setCell ?_ (by first | omega | (simp <;> omega)) _ | refine Below.trans ?_ (Below.mono (by assumption) (by first | omega | (simp <;> omega)))))) hb).trans h0) ((Below.cell (B := w.heap.size) (p := ⟨b, 1, none⟩) (by (repeat (first | exact Below.refl _ _ | assumption | apply Below.drew | apply below_drewN | refine Below.alloc ?_ (by first | omega | (simp <;> omega)) _ | refine Below.setCell ?_ (by first | omega | (simp <;> omega)) _ | refine Below.trans ?_ (Below.mono (by assumption) (by first | omega | (simp <;> omega)))))) hb).trans h1)).mono ?_; (simp [go_sem]); rintro e w' ⟨rfl, rfl⟩))
    rw [rounds_succ]
    go_wp2_with (first
      | (go_at_call 29; refine (two_any _ 0 0 _ (by simp [go_sem]) (by simp [go_sem])).mono ?_; rintro e w1 ⟨rfl, hb1⟩; obtain ⟨hc, hf⟩ := bcell hb1; have hz := hb1.size; simp at hz))
    simp [bodyPost, results, Tryd.results27, go_sem, hc]
    (repeat (first | exact Below.refl _ _ | assumption | apply Below.drew | apply below_drewN | refine Below.alloc ?_ (by first | omega | (simp <;> omega)) _ | refine Below.setCell ?_ (by first | omega | (simp <;> omega)) _ | refine Below.trans ?_ (Below.mono (by assumption) (by first | omega | (simp <;> omega)))))
set_option maxHeartbeats 1600000 in
theorem moved_bot (b : Nat) (a0 a1 n : Int) (w : World) (hn1 : n ≤ -128) (ha : 0 ≤ a1) (ha' : a1 < 18446744073709551616) (hb : b < w.heap.size) (h0 : w.cell? ⟨b, 0, none⟩ = some (.int .u64 a0)) (h1 : w.cell? ⟨b, 1, none⟩ = some (.int .u64 a1)) :
    Calls Tryd.prog 27 #[.slice (some ⟨b, 0, none⟩) 2 2, .int .i64 n, .func (.func 29) #[] #[]] w fun e w' => e = .returned (.agg #[.int .u64 0, .int .u64 0]) ∧ Gr w w' := by
  have hmf : ∀ (fn : Fn) (first cap : Array Value) (w : World), (Instr.makeFunc fn first cap).run Tryd.prog w = .ok (.func fn first cap) w := fun _ _ _ _ => rfl
  have hmk : ∀ w, (Instr.makeSlice 52 (.int .i64 2) (.int .i64 2)).run Tryd.prog w = .ok (.slice (some ⟨w.heap.size, 0, none⟩) 2 2) (w.alloc (.cells #[.int .u64 0, .int .u64 0] 24)) := fun _ => by kernel_rfl
  have h128 : IntKind.u64.wrap (bits BinOp.and IntKind.i64 (-128) 63) = 0 := by decide +kernel
  have hq : a1 / 2 / 9223372036854775808 = 0 := by omega
  have hor : bits BinOp.or IntKind.u64 0 0 = 0 := by decide +kernel
  go_enter Tryd.func27, Tryd.ntmps27
  go_wp2
  all_goals
    refine wp_loop_rounds 3 ?_
    rw [rounds_succ]
    go_wp2_with (first | (go_at_call_of 33 (Value.int .i64 1); refine (part_any _ _ b a0 a1 _ ?_ ((Below.cell (B := w.heap.size) (p := ⟨b, 0, none⟩) (by (repeat (first | exact Below.refl _ _ | assumption | apply Below.drew | apply below_drewN | refine Below.alloc ?_ (by first | omega | (simp <;> omega)) _ | refine Below.setCell ?_ (by first | omega | (simp <;> omega)) _ | refine Below.trans ?_ (Below.mono (by assumption) (by first | omega | (simp <;> omega)))))) hb).trans h0) ((Below.cell (B := w.heap.size) (p := ⟨b, 1, none⟩) (by (repeat (first | exact Below.refl _ _ | assumption | apply Below.drew | apply below_drewN | refine Below.alloc ?_ (by first | omega | (simp <;> omega)) _ | refine Below.setCell ?_ (by first | omega | (simp <;> omega)) _ | refine Below.trans ?_ (Below.mono (by assumption) (by first | omega | (simp <;> omega)))))) hb).trans h1)).mono ?_; (simp [go_sem]); rintro e w' ⟨rfl, rfl⟩; rw [show sel2 a0 a1 1 = a1 from rfl]) | (go_at_call 33; refine (part_zero _ _ b a0 a1 _ (by omega) ?_ ((Below.cell (B := w.heap.size) (p := ⟨b, 0, none⟩) (by (repeat (first | exact Below.refl _ _ | assumption | apply Below.drew | apply below_drewN | refine Below.alloc ?_ (by first | omega | (simp <;> omega)) _ | refine Below.setCell ?_ (by first | omega | (simp <;> omega)) _ | refine Below.trans ?_ (Below.mono (by assumption) (by first | omega | (simp <;> omega)))))) hb).trans h0) ((Below.cell (B := w.heap.size) (p := ⟨b, 1, none⟩) (by (repeat (first | exact Below.refl _ _ | assumption | apply Below.drew | apply below_drewN | refine Below.alloc ?_ (by first | omega | (simp <;> omega)) _ | refine Below.setCell ?_ (by first | omega | (simp <;> omega)) _ | refine Below.trans ?_ (Below.mono (by assumption) (by first | omega | (simp <;> omega)))))) hb).trans h1)).mono ?_; (simp [go_sem]); rintro e w' ⟨rfl, rfl⟩))
    rw [rounds_succ]
    go_wp2_with (first | (go_at_call_of 33 (Value.int .i64 1); refine (part_any _ _ b a0 a1 _ ?_ ((Below.cell (B := w.heap.size) (p := ⟨b, 0, none⟩) (by (repeat (first | exact Below.refl _ _ | assumption | apply Below.drew | apply below_drewN | refine Below.alloc ?_ (by first | omega | (simp <;> omega)) _ | refine Below.setCell ?_ (by first | omega | (simp <;> omega)) _ | refine Below.trans ?_ (Below.mono (by assumption) (by first | omega | (simp <;> omega)))))) hb).trans h0) ((Below.cell (B := w.heap.size) (p := ⟨b, 1, none⟩) (by (repeat (first | exact Below.refl _ _ | assumption | apply Below.drew | apply below_drewN | refine Below.alloc ?_ (by first | omega | (simp <;> omega)) _ | refine Below.setCell ?_ (by first | omega | (simp <;> omega)) _ | refine Below.trans ?_ (Below.mono (by assumption) (by first | omega | (simp <;> omega)))))) hb).trans h1)).mono ?_; (simp [go_sem]); rintro e w' ⟨rfl, rfl⟩; rw [show sel2 a0 a1 1 = a1 from rfl]) | (go_at_call 33; refine (part_zero _ _ b a0 a1 _ (by omega) ?_ ((Below.cell (B := w.heap.size) (p := ⟨b, 0, none⟩) (by (repeat (first | exact Below.refl _ _ | assumption | apply Below.drew | apply below_drewN | refine Below.alloc ?_ (by first | omega | (simp <;> omega)) _ | refine Below.setCell ?_ (by first | omega | (simp <;> omega)) _ | refine Below.trans ?_ (Below.mono (by assumption) (by first | omega | (simp <;> omega)))))) hb).trans h0) ((Below.cell (B := w.heap.size) (p := ⟨b, 1, none⟩) (by (repeat (first | exact Below.refl _ _ | assumption | apply Below.drew | apply below_drewN | refine Below.alloc ?_ (by first | omega | (simp <;> omega)) _ | refine Below.setCell ?_ (by first | omega | (simp <;> omega)) _ | refine Below.trans ?_ (Below.mono (by assumption) (by first | omega | (simp <;> omega)))))) hb).trans h1)).mono ?_; (simp [go_sem]); rintro e w' ⟨rfl, rfl⟩))
    rw [rounds_succ]
    go_wp2_with (first
      | (go_at_call 29; refine (two_any _ 0 0 _ (by simp [go_sem]) (by simp [go_sem])).mono ?_; rintro e w1 ⟨rfl, hb1⟩; obtain ⟨hc, hf⟩ := bcell hb1; have hz := hb1.size; simp at hz))
    simp [bodyPost, results, Tryd.results27, go_sem, hc]
    (repeat (first | exact Below.refl _ _ | assumption | apply Below.drew | apply below_drewN | refine Below.alloc ?_ (by first | omega | (simp <;> omega)) _ | refine Below.setCell ?_ (by first | omega | (simp <;> omega)) _ | refine Below.trans ?_ (Below.mono (by assumption) (by first | omega | (simp <;> omega)))))
/-- THE MOVE: every number, every distance. -/
theorem moved_any (b : Nat) (x : BitVec 128) (n : Int) (w : World) (hb : b < w.heap.size) (h0 : w.cell? ⟨b, 0, none⟩ = some (.int .u64 (loB x))) (h1 : w.cell? ⟨b, 1, none⟩ = some (.int .u64 (hiB x))) (hn1 : -128 ≤ n) :
    Calls Tryd.prog 27 #[.slice (some ⟨b, 0, none⟩) 2 2, .int .i64 n, .func (.func 29) #[] #[]] w fun e w' => e = .returned (Bv (bShf x n)) ∧ Gr w w' := by
  by_cases ht : 128 ≤ n
  · have h := moved_top b (loB x) (hiB x) n w ht hb h0 h1
    have e : bShf x n = 0#128 := by rw [bShf_up _ _ (by omega), bShl_far _ _ ht]; unfold bShl; exact BitVec.shiftLeft_eq_zero (by decide)
    rw [e]; exact h
  · by_cases hl : n = -128
    · subst hl
      have h := moved_bot b (loB x) (hiB x) (-128) w (by omega) (hiB_word x).1 (hiB_word x).2 hb h0 h1
      have e : bShf x (-128) = 0#128 := by rw [bShf_down _ _ (by omega)]; unfold bShr; exact BitVec.ushiftRight_eq_zero (by decide)
      rw [e]; exact h
    · have h := moved_core b (loB x) (hiB x) n w (by omega) (by omega) hb h0 h1
      rw [← moved_lo, ← moved_hi] at h
      exact h

end Hb
end Go.Proofs.YtmnoghkbmkiplaaDoor
