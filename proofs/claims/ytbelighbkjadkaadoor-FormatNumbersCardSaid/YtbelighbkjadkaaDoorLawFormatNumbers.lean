/-
  THE WALK of the law FormatNumbers. Conditions: the table of the formats holds its numbers.
-/
import Derived.Test.YtbelighbkjadkaaDoorAs
import Derived.Test.YtbelighbkjadkaaDoorGoes
import Derived.Test.YtbelighbkjadkaaDoorRefMake
namespace Go.Proofs.YtbelighbkjadkaaDoor
open Go.RowKit
namespace Hb
set_option maxRecDepth 20000
theorem max_as (f : Int) (l : 0 ≤ f) (u : f ≤ 255) (N : Bool) (z : BitVec 128) (H : Hid (fMax f N = z)) (w : World) (hT : Tab w) :
    Calls Tryd.prog 53 #[.int .u8 f, .bool N] w fun e w' => e = .returned (Bv z) ∧ Gr w w' := by
  obtain rfl := H.out; exact max_any f l u N w hT
theorem nought_as (f : Int) (l : 0 ≤ f) (u : f ≤ 255) (N : Bool) (z : BitVec 128) (H : Hid (fMake f N 0 0#128 = z)) (w : World) (hT : Tab w) :
    Calls Tryd.prog 55 #[.int .u8 f, .bool N] w fun e w' => e = .returned (Bv z) ∧ Gr w w' := by
  obtain rfl := H.out; exact nought_any f l u N w hT
theorem same_gr {P : Program} {f : FuncId} {args : Array Value} {w : World} {v : Value} (h : Calls P f args w fun e w' => e = .returned v ∧ w = w') : Calls P f args w fun e w' => e = .returned v ∧ Gr w w' :=
  h.mono fun _ _ ⟨h1, h2⟩ => ⟨h1, h2 ▸ Below.refl _ _⟩
theorem known_as (f : Int) (l : 0 ≤ f) (u : f ≤ 255) (k : Bool) (hk : Hid (fKn f = k)) (w : World) : Calls Tryd.prog 42 #[.int .u8 f] w fun e w' => e = .returned (.bool k) ∧ Gr w w' := by
  obtain rfl := hk.out; exact same_gr (known_any f l u w)
set_option maxHeartbeats 8000000 in
theorem fn_core (f : Int) (l : 0 ≤ f) (u : f ≤ 255) (b z I M O : BitVec 128) (neg r : Bool) (n : Nat) (W P E : Int) (HW : Hid (fWd f = W)) (HP : Hid (fPr f = P)) (HE : Hid (fEm f = E)) (HZ : Hid (fCut f b = z)) (HZn : Hid ((fCut f b).toNat = n)) (HB : Hid (nB n = z)) (HF : Hid (fFits f b = r)) (k : Bool) (HK : Hid (fKn f = k)) 
    (HI : Hid (fInf f neg = I)) (HM : Hid (fMax f neg = M)) (HO : Hid (fMake f neg 0 0#128 = O))
    (cs : (f < 4 ∧ k = true ∧ r = true ∧ (hiB z == hiB b) = true ∧ (loB z == loB b) = true) ∨ (f < 4 ∧ k = true ∧ r = false ∧ (hiB z == hiB b) = false) ∨ (f < 4 ∧ k = true ∧ r = false ∧ (hiB z == hiB b) = true ∧ (loB z == loB b) = false) ∨ (¬ f < 4 ∧ decide (f < 4) = false ∧ k = false ∧ r = false)) (w : World) (hT : Tab w) :
    Calls Tryd.prog 7 #[.int .u8 f, Bv b, .bool neg] w fun y w' => y = .returned (.bool true) ∧ Gr w w' := by
  simp only [Bv]
  rcases cs with ⟨h, rfl, rfl, h1, h2⟩ | ⟨h, rfl, rfl, h1⟩ | ⟨h, rfl, rfl, h1, h2⟩ | ⟨h, h1, rfl, rfl⟩
  all_goals

    go_enter Tryd.func7, Tryd.ntmps7
    go_wp2_with (first
      | (go_at_call 41; refine (rfcut_as f l u b n HZn _).mono ?_; rintro e w1 ⟨v1, rfl, hn1, hb1⟩; have HN1 := Lib.hid hn1; clear hn1; (try (with_reducible replace hb1 := undrew hb1)); obtain ⟨hc1, hf1⟩ := bcell hb1; have hs1 := hb1.size; (try simp at hs1); (try have y1_0_0 : w.heap.size < w1.heap.size := (by omega)))
      | (go_at_call 17; refine (bits_as v1 n _ HB _ HN1).mono ?_; rintro e w2 ⟨rfl, hb2⟩; (try (with_reducible replace hb2 := undrew hb2)); obtain ⟨hc2, hf2⟩ := bcell hb2; have hs2 := hb2.size; (try simp at hs2); (try have y2_0_0 : w.heap.size < w2.heap.size := (by omega)); (try have y2_0_1 : w.heap.size < w2.heap.size + 1 := (by omega))))
    refine wp_region_past (fun x => Tab x ∧ x.cell? ⟨w.heap.size, 0, none⟩ = some (.int .u64 (hiB b)) ∧ x.cell? ⟨w.heap.size, 1, none⟩ = some (.int .u64 (loB b)) ∧ x.cell? ⟨w2.heap.size, 0, none⟩ = some (.int .u64 (hiB z)) ∧ x.cell? ⟨w2.heap.size, 1, none⟩ = some (.int .u64 (loB z))) (by kernel_rfl) (by kernel_rfl) (fun wx hbx => ?_) (fun T hne tw hh hx => ?_)
    · obtain ⟨hcx, _⟩ := bcell hbx
      have hbw : Below w.heap.size w wx := by (repeat (first | with_reducible assumption | with_reducible exact Below.refl _ _ | with_reducible apply Below.drew | with_reducible apply below_drewN | with_reducible refine Below.alloc ?_ (by first | omega | (simp <;> omega)) _ | with_reducible refine Below.setCell ?_ (by first | omega | (simp <;> omega)) _ | with_reducible refine Below.trans ?_ (Below.mono (by assumption) (by first | omega | (simp <;> omega)))))
      refine ⟨hT.below hbw, ?_, ?_, ?_, ?_⟩ <;> simp [go_sem, *]
    have t0 := fun p => (hh p).1
    have t1 := fun p => (hh p).2.1
    have t2 := fun p => (hh p).2.2.1
    have t3 := fun p => (hh p).2.2.2.1
    have t4 := fun p => (hh p).2.2.2.2
    simp only [List.append]
    repeat (go_big_quiet_step (first
      | (go_at_call 42; exact callsPast hx (known_as f l u _ HK _))
      | (go_at_call 43; exact callsPast hx (width_as f l u W HW _ (hh _).1))
      | (go_at_call 44; exact callsPast hx (same_gr (rwidth_as f l u W HW _)))
      | (go_at_call 45; exact callsPast hx (prec_as f l u P HP _ (hh _).1))
      | (go_at_call 46; exact callsPast hx (same_gr (rprec_as f l u P HP _)))
      | (go_at_call 47; exact callsPast hx (emax_as f l u E HE _ (hh _).1))
      | (go_at_call 48; exact callsPast hx (same_gr (remax_as f l u E HE _)))
      | (go_at_call 49; exact callsPast hx (cut_as f l u b _ HZ _ (hh _).1))
      | (go_at_call 50; exact callsPast hx (fits_as f l u b _ HF _ (hh _).1))
      | (go_at_call 51; exact callsPast hx (inf_as f l u neg I HI _ (hh _).1))
      | (go_at_call 52; exact callsPast hx (rinf_as f l u neg I HI _))
      | (go_at_call 53; exact callsPast hx (max_as f l u neg M HM _ (hh _).1))
      | (go_at_call 54; exact callsPast hx (rmax_as f l u neg M HM _))
      | (go_at_call 55; exact callsPast hx (nought_as f l u neg O HO _ (hh _).1))
      | (go_at_call 19; exact callsPast hx (rmake_nil f l u neg 0 O HO _))
      | (go_at_call 21; exact callsPast hx (goes_any _ (hh _).1))))
    refine wpQuiet_nil ?_
    intro w7 hb7
    (try (with_reducible replace hb7 := undrew hb7)); obtain ⟨hc7, hf7⟩ := bcell hb7; have hs7 := hb7.size; (try simp at hs7); (try have y7_0 : w.heap.size < w7.heap.size := (by omega)); (try have y7_1 : w2.heap.size < w7.heap.size := (by omega))
    go_wp2
    go_ret
    exact ⟨rfl, by (repeat (first | with_reducible assumption | with_reducible exact Below.refl _ _ | with_reducible apply Below.drew | with_reducible apply below_drewN | with_reducible refine Below.alloc ?_ (by first | omega | (simp <;> omega)) _ | with_reducible refine Below.setCell ?_ (by first | omega | (simp <;> omega)) _ | with_reducible refine Below.trans ?_ (Below.mono (by assumption) (by first | omega | (simp <;> omega)))))⟩
theorem walk_formatNumbers (f : Int) (l : 0 ≤ f) (u : f ≤ 255) (b : BitVec 128) (neg : Bool) (w : World) (hT : Tab w) :
    Calls Tryd.prog 7 #[.int .u8 f, Bv b, .bool neg] w fun y w' => y = .returned (.bool true) ∧ Gr w w' := by
  refine fn_core f l u b _ _ _ _ neg _ _ _ _ _ (Lib.hid rfl) (Lib.hid rfl) (Lib.hid rfl) (Lib.hid rfl) (Lib.hid rfl) (Lib.hid (nBit_toNat _)) (Lib.hid rfl) _ (Lib.hid rfl) (Lib.hid rfl) (Lib.hid rfl) (Lib.hid rfl) ?_ w hT
  by_cases h : f < 4
  · have hk : fKn f = true := by unfold fKn; simpa using h
    have hr : fFits f b = decide (fCut f b = b) := by unfold fFits; rw [hk, Bool.true_and]
    rw [hr]
    by_cases e : fCut f b = b
    · exact .inl ⟨h, hk, decide_eq_true e, by rw [e]; simp, by rw [e]; simp⟩
    · by_cases eh : hiB (fCut f b) = hiB b
      · exact .inr (.inr (.inl ⟨h, hk, decide_eq_false e, by simpa using eh, by simpa using fun el => e (eq_of_hl eh el)⟩))
      · exact .inr (.inl ⟨h, hk, decide_eq_false e, by simpa using eh⟩)
  · exact .inr (.inr (.inr ⟨h, decide_eq_false h, (f_none f h).2.2.2, by unfold fFits; rw [(f_none f h).2.2.2]; rfl⟩))
end Hb
end Go.Proofs.YtbelighbkjadkaaDoor
