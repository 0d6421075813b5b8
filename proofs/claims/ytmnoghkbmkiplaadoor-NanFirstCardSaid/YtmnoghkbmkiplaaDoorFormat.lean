/-
  THE WALKS of package format: each function hands back what the plain part says; what stood in memory stands. Conditions: the table of the formats holds its numbers.
-/
import Derived.Test.YtmnoghkbmkiplaaDoorShift
import Derived.Test.YtmnoghkbmkiplaaDoorFormatPlain
import Derived.Deep.QuietTactic
import Derived.BigQuiet
import Derived.Deep.RegionWith
namespace Go.Proofs.YtmnoghkbmkiplaaDoor
open Go.RowKit
namespace Hb
def tabN : List Int := [16, 11, 15, 32, 24, 127, 64, 53, 1023, 128, 113, 16383]
/-- The table of the formats holds its numbers. -/
def Tab (w : World) : Prop := (∀ i : Nat, i < 12 → w.cell? ⟨0, i, none⟩ = some (.int .i64 (tabN.getD i 0))) ∧ 0 < w.heap.size
theorem Tab.below {w w' : World} (h : Tab w) (hb : Gr w w') : Tab w' :=
  ⟨fun i hi => (Below.cell (p := ⟨0, i, none⟩) hb h.2).trans (h.1 i hi), Nat.lt_of_lt_of_le h.2 hb.size⟩
theorem Tab.from {w w' : World} (h : Tab w) (hb : Below w.heap.size w w') : Tab w' := h.below hb

theorem known_any (f : Int) (h0 : 0 ≤ f) (h1 : f ≤ 255) (w : World) :
    Calls Tryd.prog 12 #[.int .u8 f] w fun e w' => e = .returned (.bool (fKn f)) ∧ w = w' := by
  unfold fKn
  go_enter Tryd.func12, Tryd.ntmps12
  go_wp2
  go_ret
  exact ⟨rfl, rfl⟩

theorem known_no (f : Int) (h0 : 0 ≤ f) (h1 : f ≤ 255) (h : ¬ f < 4) (w : World) :
    Calls Tryd.prog 12 #[.int .u8 f] w fun e w' => e = .returned (.bool false) ∧ w' = w :=
  (known_any f h0 h1 w).mono fun _ _ ⟨he, hw⟩ => ⟨by rw [he]; unfold fKn; rw [decide_eq_false h], hw.symm⟩
theorem known_yes (f : Int) (h0 : 0 ≤ f) (h : f < 4) (w : World) :
    Calls Tryd.prog 12 #[.int .u8 f] w fun e w' => e = .returned (.bool true) ∧ w' = w :=
  (known_any f h0 (by omega) w).mono fun _ _ ⟨he, hw⟩ => ⟨by rw [he]; unfold fKn; rw [decide_eq_true h], hw.symm⟩
theorem of_any (f : Int) (h0 : 0 ≤ f) (h1 : f ≤ 255) (w : World) (hT : Tab w) :
    Calls Tryd.prog 30 #[.int .u8 f] w fun e w' => e = .returned (.agg #[.int .i64 (fWd f), .int .i64 (fPr f), .int .i64 (fEm f)]) ∧ Gr w w' := by
  obtain ⟨hc, hz⟩ := hT
  by_cases h : f < 4
  · rcases f_four f h0 h with rfl | rfl | rfl | rfl
    · have c0 := hc 0 (by decide); have c1 := hc 1 (by decide); have c2 := hc 2 (by decide)
      clear hc
      simp only [tabN, List.getD_cons_zero, List.getD_cons_succ] at c0 c1 c2
      go_enter Tryd.func30, Tryd.ntmps30
      go_wp2
      simp [bodyPost, results, Tryd.results30, go_sem, *]
      refine ⟨by decide, ?_⟩
      (repeat (first | exact Below.refl _ _ | assumption | apply Below.drew | apply below_drewN | refine Below.alloc ?_ (by first | omega | (simp <;> omega)) _ | refine Below.setCell ?_ (by first | omega | (simp <;> omega)) _ | refine Below.trans ?_ (Below.mono (by assumption) (by first | omega | (simp <;> omega)))))
    · have c0 := hc 3 (by decide); have c1 := hc 4 (by decide); have c2 := hc 5 (by decide)
      clear hc
      simp only [tabN, List.getD_cons_zero, List.getD_cons_succ] at c0 c1 c2
      go_enter Tryd.func30, Tryd.ntmps30
      go_wp2
      simp [bodyPost, results, Tryd.results30, go_sem, *]
      refine ⟨by decide, ?_⟩
      (repeat (first | exact Below.refl _ _ | assumption | apply Below.drew | apply below_drewN | refine Below.alloc ?_ (by first | omega | (simp <;> omega)) _ | refine Below.setCell ?_ (by first | omega | (simp <;> omega)) _ | refine Below.trans ?_ (Below.mono (by assumption) (by first | omega | (simp <;> omega)))))
    · have c0 := hc 6 (by decide); have c1 := hc 7 (by decide); have c2 := hc 8 (by decide)
      clear hc
      simp only [tabN, List.getD_cons_zero, List.getD_cons_succ] at c0 c1 c2
      go_enter Tryd.func30, Tryd.ntmps30
      go_wp2
      simp [bodyPost, results, Tryd.results30, go_sem, *]
      refine ⟨by decide, ?_⟩
      (repeat (first | exact Below.refl _ _ | assumption | apply Below.drew | apply below_drewN | refine Below.alloc ?_ (by first | omega | (simp <;> omega)) _ | refine Below.setCell ?_ (by first | omega | (simp <;> omega)) _ | refine Below.trans ?_ (Below.mono (by assumption) (by first | omega | (simp <;> omega)))))
    · have c0 := hc 9 (by decide); have c1 := hc 10 (by decide); have c2 := hc 11 (by decide)
      clear hc
      simp only [tabN, List.getD_cons_zero, List.getD_cons_succ] at c0 c1 c2
      go_enter Tryd.func30, Tryd.ntmps30
      go_wp2
      simp [bodyPost, results, Tryd.results30, go_sem, *]
      refine ⟨by decide, ?_⟩
      (repeat (first | exact Below.refl _ _ | assumption | apply Below.drew | apply below_drewN | refine Below.alloc ?_ (by first | omega | (simp <;> omega)) _ | refine Below.setCell ?_ (by first | omega | (simp <;> omega)) _ | refine Below.trans ?_ (Below.mono (by assumption) (by first | omega | (simp <;> omega)))))
  · obtain ⟨e1, e2, e3, _⟩ := f_none f h
    rw [e1, e2, e3]
    clear e1 e2 e3 hc
    go_enter Tryd.func30, Tryd.ntmps30
    go_wp2
    simp [bodyPost, results, Tryd.results30, go_sem]
    (repeat (first | exact Below.refl _ _ | assumption | apply Below.drew | apply below_drewN | refine Below.alloc ?_ (by first | omega | (simp <;> omega)) _ | refine Below.setCell ?_ (by first | omega | (simp <;> omega)) _ | refine Below.trans ?_ (Below.mono (by assumption) (by first | omega | (simp <;> omega)))))
theorem width_any (f : Int) (h0 : 0 ≤ f) (h1 : f ≤ 255) (w : World) (hT : Tab w) :
    Calls Tryd.prog 26 #[.int .u8 f] w fun e w' => e = .returned (.int .i64 (fWd f)) ∧ Gr w w' := by
  have hfld : ∀ (a b c : Int) (w : World), (Instr.field 56 (.agg #[.int .i64 a, .int .i64 b, .int .i64 c]) 0).run Tryd.prog w = .ok (.int .i64 a) w := fun _ _ _ _ => by kernel_rfl
  go_enter Tryd.func26, Tryd.ntmps26
  go_wp2_with (first | (go_at_call 30; refine (of_any f h0 h1 _ hT).mono ?_; rintro e w1 ⟨rfl, hb1⟩))
  go_ret
  exact ⟨rfl, hb1⟩
theorem prec_any (f : Int) (h0 : 0 ≤ f) (h1 : f ≤ 255) (w : World) (hT : Tab w) :
    Calls Tryd.prog 17 #[.int .u8 f] w fun e w' => e = .returned (.int .i64 (fPr f)) ∧ Gr w w' := by
  have hfld : ∀ (a b c : Int) (w : World), (Instr.field 56 (.agg #[.int .i64 a, .int .i64 b, .int .i64 c]) 1).run Tryd.prog w = .ok (.int .i64 b) w := fun _ _ _ _ => by kernel_rfl
  go_enter Tryd.func17, Tryd.ntmps17
  go_wp2_with (first | (go_at_call 30; refine (of_any f h0 h1 _ hT).mono ?_; rintro e w1 ⟨rfl, hb1⟩))
  go_ret
  exact ⟨rfl, hb1⟩
theorem emax_any (f : Int) (h0 : 0 ≤ f) (h1 : f ≤ 255) (w : World) (hT : Tab w) :
    Calls Tryd.prog 20 #[.int .u8 f] w fun e w' => e = .returned (.int .i64 (fEm f)) ∧ Gr w w' := by
  have hfld : ∀ (a b c : Int) (w : World), (Instr.field 56 (.agg #[.int .i64 a, .int .i64 b, .int .i64 c]) 2).run Tryd.prog w = .ok (.int .i64 c) w := fun _ _ _ _ => by kernel_rfl
  go_enter Tryd.func20, Tryd.ntmps20
  go_wp2_with (first | (go_at_call 30; refine (of_any f h0 h1 _ hT).mono ?_; rintro e w1 ⟨rfl, hb1⟩))
  go_ret
  exact ⟨rfl, hb1⟩
theorem low_any (b : BitVec 128) (n : Int) (h0 : 0 ≤ n) (h1 : n ≤ 128) (w : World) :
    Calls Tryd.prog 25 #[Bv b, .int .i64 n] w fun e w' => e = .returned (Bv (fLow b n)) ∧ Gr w w' := by
  unfold fLow
  simp only [Bv]
  go_enter Tryd.func25, Tryd.ntmps25
  go_wp2_with (first
    | (go_at_call 16; refine (left_any _ _ _).mono ?_; rintro e w1 ⟨rfl, hb1⟩; (try (with_reducible replace hb1 := undrew hb1)); obtain ⟨hc1, hf1⟩ := bcell hb1; have hs1 := hb1.size; (try simp at hs1); have z1_0 : w.heap.size < w1.heap.size := (by omega); have z1_1 : w.heap.size + 1 < w1.heap.size := (by omega))
    | (go_at_call 31; refine (right_any _ _ _).mono ?_; rintro e w2 ⟨rfl, hb2⟩; (try (with_reducible replace hb2 := undrew hb2)); obtain ⟨hc2, hf2⟩ := bcell hb2; have hs2 := hb2.size; (try simp at hs2); have z2_0 : w.heap.size < w2.heap.size := (by omega); have z2_1 : w.heap.size + 1 < w2.heap.size := (by omega)))
  simp [bodyPost, results, Tryd.results25, go_sem, *]
  (repeat (first | exact Below.refl _ _ | assumption | apply Below.drew | apply below_drewN | refine Below.alloc ?_ (by first | omega | (simp <;> omega)) _ | refine Below.setCell ?_ (by first | omega | (simp <;> omega)) _ | refine Below.trans ?_ (Below.mono (by assumption) (by first | omega | (simp <;> omega)))))
theorem fWd_le (f : Int) (h0 : 0 ≤ f) : 0 ≤ fWd f ∧ fWd f ≤ 128 := by
  by_cases h : f < 4
  · have := f_bounds f h0 h; omega
  · have := (f_none f h).1; omega
theorem cut_any (f : Int) (h0 : 0 ≤ f) (h1 : f ≤ 255) (b : BitVec 128) (w : World) (hT : Tab w) :
    Calls Tryd.prog 15 #[.int .u8 f, Bv b] w fun e w' => e = .returned (Bv (fCut f b)) ∧ Gr w w' := by
  have hw := fWd_le f h0
  unfold fCut
  simp only [Bv]
  go_enter Tryd.func15, Tryd.ntmps15
  go_wp2
  go_region_held3 (fun w' => w'.cell? ⟨w.heap.size, 0, none⟩ = some (.int .u64 (hiB b)) ∧ w'.cell? ⟨w.heap.size, 1, none⟩ = some (.int .u64 (loB b)))
    (simp [go_sem, World.cell?_alloc_past, *])
    (first
      | (go_at_call 26; refine (width_any f h0 h1 _ (hT.below (by (repeat (first | exact Below.refl _ _ | assumption | apply Below.drew | apply below_drewN | refine Below.alloc ?_ (by first | omega | (simp <;> omega)) _ | refine Below.setCell ?_ (by first | omega | (simp <;> omega)) _ | refine Below.trans ?_ (Below.mono (by assumption) (by first | omega | (simp <;> omega)))))))).mono ?_; rintro e w1 ⟨rfl, hb1⟩; (try (with_reducible replace hb1 := undrew hb1)); obtain ⟨hc1, hf1⟩ := bcell hb1; have hs1 := hb1.size; (try simp at hs1); have z1_0 : w.heap.size < w1.heap.size := (by omega); have z1_1 : w.heap.size + 1 < w1.heap.size := (by omega))
      | (go_at_call 25; refine (low_any _ _ hw.1 hw.2 _).mono ?_; rintro e w2 ⟨rfl, hb2⟩; (try (with_reducible replace hb2 := undrew hb2)); obtain ⟨hc2, hf2⟩ := bcell hb2; have hs2 := hb2.size; (try simp at hs2); have z2_0 : w.heap.size < w2.heap.size := (by omega); have z2_1 : w.heap.size + 1 < w2.heap.size := (by omega)))
  go_wp2
  simp [bodyPost, results, Tryd.results15, go_sem, *]
  (repeat (first | exact Below.refl _ _ | assumption | apply Below.drew | apply below_drewN | refine Below.alloc ?_ (by first | omega | (simp <;> omega)) _ | refine Below.setCell ?_ (by first | omega | (simp <;> omega)) _ | refine Below.trans ?_ (Below.mono (by assumption) (by first | omega | (simp <;> omega)))))
end Hb
end Go.Proofs.YtmnoghkbmkiplaaDoor
