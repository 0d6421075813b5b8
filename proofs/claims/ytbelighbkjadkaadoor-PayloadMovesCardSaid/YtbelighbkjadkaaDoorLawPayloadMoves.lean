/-
  THE WALK of the law PayloadMoves. Conditions: the table of the formats holds its numbers.
-/
import Derived.Test.YtbelighbkjadkaaDoorGoes11
import Derived.Test.YtbelighbkjadkaaDoorRef11
namespace Go.Proofs.YtbelighbkjadkaaDoor
open Go.RowKit
namespace Hb
set_option maxRecDepth 20000
theorem pm_core (g t : Int) (b : BitVec 128) (h k fl : Int) (r : Bool) (w : World) (hT : Tab w)
    (h1 : ∀ w, Tab w → Calls Tryd.prog 58 #[.int .u8 g, .int .u8 t, Bv b] w fun e w' => e = .returned (.tuple #[.agg #[.int .u64 h, .int .u64 k, .int .u8 fl], .bool r]) ∧ Gr w w')
    (h2 : ∀ w, Calls Tryd.prog 59 #[.int .u8 g, .int .u8 t, Bv b] w fun e w' => e = .returned (.tuple #[.agg #[.int .u64 h, .int .u64 k, .int .u8 fl], .bool r]) ∧ Gr w w') :
    Calls Tryd.prog 10 #[.int .u8 g, .int .u8 t, Bv b] w fun y w' => y = .returned (.bool true) ∧ Gr w w' := by
  simp only [Bv] at h1 h2 ⊢

  go_enter Tryd.func10, Tryd.ntmps10
  go_wp2_with (first
    | (go_at_call 58; refine (h1 _ (hT.below (by (repeat (first | with_reducible assumption | with_reducible exact Below.refl _ _ | with_reducible apply Below.drew | with_reducible apply below_drewN | with_reducible refine Below.alloc ?_ (by first | omega | (simp <;> omega)) _ | with_reducible refine Below.setCell ?_ (by first | omega | (simp <;> omega)) _ | with_reducible refine Below.trans ?_ (Below.mono (by assumption) (by first | omega | (simp <;> omega)))))))).mono ?_; rintro e w1 ⟨rfl, hb1⟩; (try (with_reducible replace hb1 := undrew hb1)); obtain ⟨hc1, hf1⟩ := bcell hb1; have hs1 := hb1.size; (try simp at hs1); (try have y1_0_0 : w.heap.size < w1.heap.size := (by omega)); (try have y1_0_1 : w.heap.size < w1.heap.size + 1 := (by omega)))
    | (go_at_call 59; refine (h2 _).mono ?_; rintro e w2 ⟨rfl, hb2⟩; (try (with_reducible replace hb2 := undrew hb2)); obtain ⟨hc2, hf2⟩ := bcell hb2; have hs2 := hb2.size; (try simp at hs2); (try have y2_0_0 : w.heap.size < w2.heap.size := (by omega)); (try have y2_0_1 : w.heap.size < w2.heap.size + 1 := (by omega)); (try have y2_1_0 : w1.heap.size < w2.heap.size := (by omega)); (try have y2_1_1 : w1.heap.size < w2.heap.size + 1 := (by omega)))
    | (go_at_call 60; refine (goes11_any _ (hT.below (by (repeat (first | with_reducible assumption | with_reducible exact Below.refl _ _ | with_reducible apply Below.drew | with_reducible apply below_drewN | with_reducible refine Below.alloc ?_ (by first | omega | (simp <;> omega)) _ | with_reducible refine Below.setCell ?_ (by first | omega | (simp <;> omega)) _ | with_reducible refine Below.trans ?_ (Below.mono (by assumption) (by first | omega | (simp <;> omega)))))))).mono ?_; rintro e w3 ⟨rfl, hb3⟩; (try (with_reducible replace hb3 := undrew hb3)); obtain ⟨hc3, hf3⟩ := bcell hb3; have hs3 := hb3.size; (try simp at hs3); (try have y3_0_0 : w.heap.size < w3.heap.size := (by omega)); (try have y3_1_0 : w1.heap.size < w3.heap.size := (by omega)); (try have y3_2_0 : w2.heap.size < w3.heap.size := (by omega))))
  go_ret
  exact ⟨rfl, by (repeat (first | with_reducible assumption | with_reducible exact Below.refl _ _ | with_reducible apply Below.drew | with_reducible apply below_drewN | with_reducible refine Below.alloc ?_ (by first | omega | (simp <;> omega)) _ | with_reducible refine Below.setCell ?_ (by first | omega | (simp <;> omega)) _ | with_reducible refine Below.trans ?_ (Below.mono (by assumption) (by first | omega | (simp <;> omega)))))⟩
theorem walk_payloadMoves (g : Int) (l : 0 ≤ g) (u : g ≤ 255) (t : Int) (l' : 0 ≤ t) (u' : t ≤ 255) (b : BitVec 128) (w : World) (hT : Tab w) :
    Calls Tryd.prog 10 #[.int .u8 g, .int .u8 t, Bv b] w fun y w' => y = .returned (.bool true) ∧ Gr w w' := by
  by_cases hall : t < 4 ∧ cNaN g b = true
  · obtain ⟨ht, hn⟩ := hall
    have hg := nan_known g b hn
    obtain ⟨s, hs⟩ : ∃ s, cSig g b = s := ⟨_, rfl⟩
    have hfl : ∃ fl : Int, (s = true ∧ fl = 1) ∨ (s = false ∧ fl = 0) := by
      cases s
      · exact ⟨0, .inr ⟨rfl, rfl⟩⟩
      · exact ⟨1, .inl ⟨rfl, rfl⟩⟩
    obtain ⟨fl, hfl⟩ := hfl
    exact pm_core g t b _ _ fl true w hT (fun w hT => move_yes g t l u l' u' b _ s fl ht hn (Lib.hid rfl) (Lib.hid hs) hfl w hT) (fun w => rmv_as g t l u l' u' b _ s fl hg ht hn (Lib.hid rfl) (Lib.hid hs) hfl w)
  · refine pm_core g t b 0 0 0 false w hT (fun w hT => move_no g t l u l' u' b ?_ w hT) (fun w => rmv_no g t l u b _ (Lib.hid rfl) ?_ w)
    · by_cases ht : t < 4
      · refine .inr ?_
        cases hn : cNaN g b
        · rfl
        · exact absurd ⟨ht, hn⟩ hall
      · exact .inl ht
    · by_cases hg : 3 < g
      · exact .inl hg
      · by_cases ht : 3 < t
        · exact .inr (.inl ⟨by omega, ht⟩)
        · refine .inr (.inr ⟨by omega, by omega, ?_⟩)
          cases hn : cNaN g b
          · rfl
          · exact absurd ⟨by omega, hn⟩ hall
end Hb
end Go.Proofs.YtbelighbkjadkaaDoor
