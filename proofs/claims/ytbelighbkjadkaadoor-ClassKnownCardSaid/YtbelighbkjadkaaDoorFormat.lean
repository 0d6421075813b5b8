/-
  THE WALKS of package format: each function hands back what the plain part says; what stood in memory stands. Conditions: the table of the formats holds its numbers.
-/
import Derived.Test.YtbelighbkjadkaaDoorShift
import Derived.Test.YtbelighbkjadkaaDoorFormatPlain
import Derived.Deep.QuietTactic
import Derived.BigQuiet
import Derived.Deep.RegionWith
namespace Go.Proofs.YtbelighbkjadkaaDoor
open Go.RowKit
namespace Hb
def tabN : List Int := [16, 11, 15, 32, 24, 127, 64, 53, 1023, 128, 113, 16383]
/-- The table of the formats holds its numbers. -/
def Tab (w : World) : Prop := (∀ i : Nat, i < 12 → w.cell? ⟨0, i, none⟩ = some (.int .i64 (tabN.getD i 0))) ∧ 0 < w.heap.size
theorem Tab.below {w w' : World} (h : Tab w) (hb : Gr w w') : Tab w' :=
  ⟨fun i hi => (Below.cell (p := ⟨0, i, none⟩) hb h.2).trans (h.1 i hi), Nat.lt_of_lt_of_le h.2 hb.size⟩
theorem Tab.from {w w' : World} (h : Tab w) (hb : Below w.heap.size w w') : Tab w' := h.below hb

theorem known_any (f : Int) (h0 : 0 ≤ f) (h1 : f ≤ 255) (w : World) :
    Calls Tryd.prog 42 #[.int .u8 f] w fun e w' => e = .returned (.bool (fKn f)) ∧ w = w' := by
  unfold fKn
  go_enter Tryd.func42, Tryd.ntmps42
  go_wp2
  go_ret
  exact ⟨rfl, rfl⟩

theorem known_no (f : Int) (h0 : 0 ≤ f) (h1 : f ≤ 255) (h : ¬ f < 4) (w : World) :
    Calls Tryd.prog 42 #[.int .u8 f] w fun e w' => e = .returned (.bool false) ∧ w' = w :=
  (known_any f h0 h1 w).mono fun _ _ ⟨he, hw⟩ => ⟨by rw [he]; unfold fKn; rw [decide_eq_false h], hw.symm⟩
theorem known_yes (f : Int) (h0 : 0 ≤ f) (h : f < 4) (w : World) :
    Calls Tryd.prog 42 #[.int .u8 f] w fun e w' => e = .returned (.bool true) ∧ w' = w :=
  (known_any f h0 (by omega) w).mono fun _ _ ⟨he, hw⟩ => ⟨by rw [he]; unfold fKn; rw [decide_eq_true h], hw.symm⟩
theorem of_any (f : Int) (h0 : 0 ≤ f) (h1 : f ≤ 255) (w : World) (hT : Tab w) :
    Calls Tryd.prog 73 #[.int .u8 f] w fun e w' => e = .returned (.agg #[.int .i64 (fWd f), .int .i64 (fPr f), .int .i64 (fEm f)]) ∧ Gr w w' := by
  obtain ⟨hc, hz⟩ := hT
  by_cases h : f < 4
  · rcases f_four f h0 h with rfl | rfl | rfl | rfl
    · have c0 := hc 0 (by decide); have c1 := hc 1 (by decide); have c2 := hc 2 (by decide)
      clear hc
      simp only [tabN, List.getD_cons_zero, List.getD_cons_succ] at c0 c1 c2
      go_enter Tryd.func73, Tryd.ntmps73
      go_wp2
      simp [bodyPost, results, Tryd.results73, go_sem, *]
      refine ⟨by decide, ?_⟩
      (repeat (first | exact Below.refl _ _ | assumption | apply Below.drew | apply below_drewN | refine Below.alloc ?_ (by first | omega | (simp <;> omega)) _ | refine Below.setCell ?_ (by first | omega | (simp <;> omega)) _ | refine Below.trans ?_ (Below.mono (by assumption) (by first | omega | (simp <;> omega)))))
    · have c0 := hc 3 (by decide); have c1 := hc 4 (by decide); have c2 := hc 5 (by decide)
      clear hc
      simp only [tabN, List.getD_cons_zero, List.getD_cons_succ] at c0 c1 c2
      go_enter Tryd.func73, Tryd.ntmps73
      go_wp2
      simp [bodyPost, results, Tryd.results73, go_sem, *]
      refine ⟨by decide, ?_⟩
      (repeat (first | exact Below.refl _ _ | assumption | apply Below.drew | apply below_drewN | refine Below.alloc ?_ (by first | omega | (simp <;> omega)) _ | refine Below.setCell ?_ (by first | omega | (simp <;> omega)) _ | refine Below.trans ?_ (Below.mono (by assumption) (by first | omega | (simp <;> omega)))))
    · have c0 := hc 6 (by decide); have c1 := hc 7 (by decide); have c2 := hc 8 (by decide)
      clear hc
      simp only [tabN, List.getD_cons_zero, List.getD_cons_succ] at c0 c1 c2
      go_enter Tryd.func73, Tryd.ntmps73
      go_wp2
      simp [bodyPost, results, Tryd.results73, go_sem, *]
      refine ⟨by decide, ?_⟩
      (repeat (first | exact Below.refl _ _ | assumption | apply Below.drew | apply below_drewN | refine Below.alloc ?_ (by first | omega | (simp <;> omega)) _ | refine Below.setCell ?_ (by first | omega | (simp <;> omega)) _ | refine Below.trans ?_ (Below.mono (by assumption) (by first | omega | (simp <;> omega)))))
    · have c0 := hc 9 (by decide); have c1 := hc 10 (by decide); have c2 := hc 11 (by decide)
      clear hc
      simp only [tabN, List.getD_cons_zero, List.getD_cons_succ] at c0 c1 c2
      go_enter Tryd.func73, Tryd.ntmps73
      go_wp2
      simp [bodyPost, results, Tryd.results73, go_sem, *]
      refine ⟨by decide, ?_⟩
      (repeat (first | exact Below.refl _ _ | assumption | apply Below.drew | apply below_drewN | refine Below.alloc ?_ (by first | omega | (simp <;> omega)) _ | refine Below.setCell ?_ (by first | omega | (simp <;> omega)) _ | refine Below.trans ?_ (Below.mono (by assumption) (by first | omega | (simp <;> omega)))))
  · obtain ⟨e1, e2, e3, _⟩ := f_none f h
    rw [e1, e2, e3]
    clear e1 e2 e3 hc
    go_enter Tryd.func73, Tryd.ntmps73
    go_wp2
    simp [bodyPost, results, Tryd.results73, go_sem]
    (repeat (first | exact Below.refl _ _ | assumption | apply Below.drew | apply below_drewN | refine Below.alloc ?_ (by first | omega | (simp <;> omega)) _ | refine Below.setCell ?_ (by first | omega | (simp <;> omega)) _ | refine Below.trans ?_ (Below.mono (by assumption) (by first | omega | (simp <;> omega)))))
theorem width_any (f : Int) (h0 : 0 ≤ f) (h1 : f ≤ 255) (w : World) (hT : Tab w) :
    Calls Tryd.prog 43 #[.int .u8 f] w fun e w' => e = .returned (.int .i64 (fWd f)) ∧ Gr w w' := by
  have hfld : ∀ (a b c : Int) (w : World), (Instr.field 86 (.agg #[.int .i64 a, .int .i64 b, .int .i64 c]) 0).run Tryd.prog w = .ok (.int .i64 a) w := fun _ _ _ _ => by kernel_rfl
  go_enter Tryd.func43, Tryd.ntmps43
  go_wp2_with (first | (go_at_call 73; refine (of_any f h0 h1 _ hT).mono ?_; rintro e w1 ⟨rfl, hb1⟩))
  go_ret
  exact ⟨rfl, hb1⟩
theorem prec_any (f : Int) (h0 : 0 ≤ f) (h1 : f ≤ 255) (w : World) (hT : Tab w) :
    Calls Tryd.prog 45 #[.int .u8 f] w fun e w' => e = .returned (.int .i64 (fPr f)) ∧ Gr w w' := by
  have hfld : ∀ (a b c : Int) (w : World), (Instr.field 86 (.agg #[.int .i64 a, .int .i64 b, .int .i64 c]) 1).run Tryd.prog w = .ok (.int .i64 b) w := fun _ _ _ _ => by kernel_rfl
  go_enter Tryd.func45, Tryd.ntmps45
  go_wp2_with (first | (go_at_call 73; refine (of_any f h0 h1 _ hT).mono ?_; rintro e w1 ⟨rfl, hb1⟩))
  go_ret
  exact ⟨rfl, hb1⟩
theorem emax_any (f : Int) (h0 : 0 ≤ f) (h1 : f ≤ 255) (w : World) (hT : Tab w) :
    Calls Tryd.prog 47 #[.int .u8 f] w fun e w' => e = .returned (.int .i64 (fEm f)) ∧ Gr w w' := by
  have hfld : ∀ (a b c : Int) (w : World), (Instr.field 86 (.agg #[.int .i64 a, .int .i64 b, .int .i64 c]) 2).run Tryd.prog w = .ok (.int .i64 c) w := fun _ _ _ _ => by kernel_rfl
  go_enter Tryd.func47, Tryd.ntmps47
  go_wp2_with (first | (go_at_call 73; refine (of_any f h0 h1 _ hT).mono ?_; rintro e w1 ⟨rfl, hb1⟩))
  go_ret
  exact ⟨rfl, hb1⟩
theorem low_any (b : BitVec 128) (n : Int) (h0 : 0 ≤ n) (h1 : n ≤ 128) (w : World) :
    Calls Tryd.prog 76 #[Bv b, .int .i64 n] w fun e w' => e = .returned (Bv (fLow b n)) ∧ Gr w w' := by
  unfold fLow
  simp only [Bv]
  go_enter Tryd.func76, Tryd.ntmps76
  go_wp2_with (first
    | (go_at_call 57; refine (left_any _ _ _).mono ?_; rintro e w1 ⟨rfl, hb1⟩; (try (with_reducible replace hb1 := undrew hb1)); obtain ⟨hc1, hf1⟩ := bcell hb1; have hs1 := hb1.size; (try simp at hs1); have z1_0 : w.heap.size < w1.heap.size := (by omega); have z1_1 : w.heap.size + 1 < w1.heap.size := (by omega))
    | (go_at_call 74; refine (right_any _ _ _).mono ?_; rintro e w2 ⟨rfl, hb2⟩; (try (with_reducible replace hb2 := undrew hb2)); obtain ⟨hc2, hf2⟩ := bcell hb2; have hs2 := hb2.size; (try simp at hs2); have z2_0 : w.heap.size < w2.heap.size := (by omega); have z2_1 : w.heap.size + 1 < w2.heap.size := (by omega)))
  simp [bodyPost, results, Tryd.results76, go_sem, *]
  (repeat (first | exact Below.refl _ _ | assumption | apply Below.drew | apply below_drewN | refine Below.alloc ?_ (by first | omega | (simp <;> omega)) _ | refine Below.setCell ?_ (by first | omega | (simp <;> omega)) _ | refine Below.trans ?_ (Below.mono (by assumption) (by first | omega | (simp <;> omega)))))
theorem fWd_le (f : Int) (h0 : 0 ≤ f) : 0 ≤ fWd f ∧ fWd f ≤ 128 := by
  by_cases h : f < 4
  · have := f_bounds f h0 h; omega
  · have := (f_none f h).1; omega
theorem cut_any (f : Int) (h0 : 0 ≤ f) (h1 : f ≤ 255) (b : BitVec 128) (w : World) (hT : Tab w) :
    Calls Tryd.prog 49 #[.int .u8 f, Bv b] w fun e w' => e = .returned (Bv (fCut f b)) ∧ Gr w w' := by
  have hw := fWd_le f h0
  unfold fCut
  simp only [Bv]
  go_enter Tryd.func49, Tryd.ntmps49
  go_wp2
  go_region_held3 (fun w' => w'.cell? ⟨w.heap.size, 0, none⟩ = some (.int .u64 (hiB b)) ∧ w'.cell? ⟨w.heap.size, 1, none⟩ = some (.int .u64 (loB b)))
    (simp [go_sem, World.cell?_alloc_past, *])
    (first
      | (go_at_call 43; refine (width_any f h0 h1 _ (hT.below (by (repeat (first | exact Below.refl _ _ | assumption | apply Below.drew | apply below_drewN | refine Below.alloc ?_ (by first | omega | (simp <;> omega)) _ | refine Below.setCell ?_ (by first | omega | (simp <;> omega)) _ | refine Below.trans ?_ (Below.mono (by assumption) (by first | omega | (simp <;> omega)))))))).mono ?_; rintro e w1 ⟨rfl, hb1⟩; (try (with_reducible replace hb1 := undrew hb1)); obtain ⟨hc1, hf1⟩ := bcell hb1; have hs1 := hb1.size; (try simp at hs1); have z1_0 : w.heap.size < w1.heap.size := (by omega); have z1_1 : w.heap.size + 1 < w1.heap.size := (by omega))
      | (go_at_call 76; refine (low_any _ _ hw.1 hw.2 _).mono ?_; rintro e w2 ⟨rfl, hb2⟩; (try (with_reducible replace hb2 := undrew hb2)); obtain ⟨hc2, hf2⟩ := bcell hb2; have hs2 := hb2.size; (try simp at hs2); have z2_0 : w.heap.size < w2.heap.size := (by omega); have z2_1 : w.heap.size + 1 < w2.heap.size := (by omega)))
  go_wp2
  simp [bodyPost, results, Tryd.results49, go_sem, *]
  (repeat (first | exact Below.refl _ _ | assumption | apply Below.drew | apply below_drewN | refine Below.alloc ?_ (by first | omega | (simp <;> omega)) _ | refine Below.setCell ?_ (by first | omega | (simp <;> omega)) _ | refine Below.trans ?_ (Below.mono (by assumption) (by first | omega | (simp <;> omega)))))
theorem fits_core (f : Int) (h0 : 0 ≤ f) (h1 : f < 4) (b : BitVec 128) (r : Bool)
    (hr : (hiB (fCut f b) == hiB b) = r ∨ ((hiB (fCut f b) == hiB b) = true ∧ (loB (fCut f b) == loB b) = r)) (hr2 : r = true → (hiB (fCut f b) == hiB b) = true ∧ (loB (fCut f b) == loB b) = true) (w : World) (hT : Tab w) :
    Calls Tryd.prog 50 #[.int .u8 f, Bv b] w fun e w' => e = .returned (.bool r) ∧ Gr w w' := by
  have hk' : fKn f = true := by unfold fKn; simpa using h1
  have cases3 : (r = true ∧ (hiB (fCut f b) == hiB b) = true ∧ (loB (fCut f b) == loB b) = true) ∨ (r = false ∧ (hiB (fCut f b) == hiB b) = false) ∨ (r = false ∧ (hiB (fCut f b) == hiB b) = true ∧ (loB (fCut f b) == loB b) = false) := by
    cases r
    · rcases hr with h | ⟨h, h'⟩
      · exact .inr (.inl ⟨rfl, h⟩)
      · exact .inr (.inr ⟨rfl, h, h'⟩)
    · exact .inl ⟨rfl, hr2 rfl⟩
  clear hr hr2
  simp only [Bv]
  rcases cases3 with ⟨rfl, e1, e2⟩ | ⟨rfl, e1⟩ | ⟨rfl, e1, e2⟩
  all_goals
    go_enter Tryd.func50, Tryd.ntmps50
    go_wp2
    go_region_held3 (fun w' => w'.cell? ⟨w.heap.size, 0, none⟩ = some (.int .u64 (hiB b)) ∧ w'.cell? ⟨w.heap.size, 1, none⟩ = some (.int .u64 (loB b)))
      (simp [go_sem, *])
      (first
        | (go_at_call 42; refine (known_any f h0 (by omega) _).mono ?_; rintro e w1 ⟨rfl, rfl⟩; rw [hk'])
        | (go_at_call 49; refine (cut_any f h0 (by omega) b _ (hT.below (by (repeat (first | exact Below.refl _ _ | assumption | apply Below.drew | apply below_drewN | refine Below.alloc ?_ (by first | omega | (simp <;> omega)) _ | refine Below.setCell ?_ (by first | omega | (simp <;> omega)) _ | refine Below.trans ?_ (Below.mono (by assumption) (by first | omega | (simp <;> omega)))))))).mono ?_; rintro e w2 ⟨rfl, hb2⟩; (try (with_reducible replace hb2 := undrew hb2)); obtain ⟨hc2, hf2⟩ := bcell hb2; have hs2 := hb2.size; (try simp at hs2); have z2_0 : w.heap.size < w2.heap.size := (by omega)))
    go_wp2
    go_ret
    exact ⟨rfl, by (repeat (first | exact Below.refl _ _ | assumption | apply Below.drew | apply below_drewN | refine Below.alloc ?_ (by first | omega | (simp <;> omega)) _ | refine Below.setCell ?_ (by first | omega | (simp <;> omega)) _ | refine Below.trans ?_ (Below.mono (by assumption) (by first | omega | (simp <;> omega)))))⟩
theorem fits_any (f : Int) (h0 : 0 ≤ f) (h1 : f ≤ 255) (b : BitVec 128) (w : World) (hT : Tab w) :
    Calls Tryd.prog 50 #[.int .u8 f, Bv b] w fun e w' => e = .returned (.bool (fFits f b)) ∧ Gr w w' := by
  by_cases hk : f < 4
  · have hk' : fKn f = true := by unfold fKn; simpa using hk
    refine fits_core f h0 hk b _ ?_ ?_ w hT
    · unfold fFits; rw [hk', Bool.true_and]
      by_cases hh : hiB (fCut f b) = hiB b
      · refine .inr ⟨by simpa using hh, ?_⟩
        rw [Bool.eq_iff_iff]; simp [eq_iff_hl, hh]
      · refine .inl ?_
        rw [Bool.eq_iff_iff]; simp [eq_iff_hl, hh]
    · unfold fFits; rw [hk', Bool.true_and]; intro h
      have := of_decide_eq_true h
      rw [this]; simp
  · have hk' : fKn f = false := (f_none f hk).2.2.2
    have hfit : fFits f b = false := by unfold fFits; rw [hk']; rfl
    rw [hfit]
    clear hfit
    simp only [Bv]
    go_enter Tryd.func50, Tryd.ntmps50
    go_wp2
    go_quiet ((go_at_call 42; exact Calls.quiet_of_same (known_no f h0 h1 (by omega) _)))
    all_goals go_wp2
    all_goals go_ret
    all_goals exact ⟨rfl, by (repeat (first | exact Below.refl _ _ | assumption | apply Below.drew | apply below_drewN | refine Below.alloc ?_ (by first | omega | (simp <;> omega)) _ | refine Below.setCell ?_ (by first | omega | (simp <;> omega)) _ | refine Below.trans ?_ (Below.mono (by assumption) (by first | omega | (simp <;> omega)))))⟩
end Hb
end Go.Proofs.YtbelighbkjadkaaDoor
