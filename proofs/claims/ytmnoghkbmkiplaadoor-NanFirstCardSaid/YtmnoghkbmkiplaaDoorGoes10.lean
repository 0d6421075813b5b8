/-
  THE WALK of law10.goes: it answers true. Conditions: the table of the formats holds its numbers.
-/
import Derived.Test.YtmnoghkbmkiplaaDoorPick
namespace Go.Proofs.YtmnoghkbmkiplaaDoor
open Go.RowKit
namespace Hb
set_option maxRecDepth 20000
/-- A list that is written out. -/
def litF (xs : List (Int × Int)) (i : Nat) : BitVec 128 := mkB (xs.getD i (0, 0)).1 (xs.getD i (0, 0)).2
theorem lstL (W : World) (b : Nat) (xs : List (Int × Int)) (hw : ∀ i, i < xs.length → Word (xs.getD i (0, 0)).1 ∧ Word (xs.getD i (0, 0)).2) (hb : b < W.heap.size)
    (hc : ∀ i, i < xs.length → W.cell? ⟨b, i * 2, none⟩ = some (.int .u64 (xs.getD i (0, 0)).1) ∧ W.cell? ⟨b, i * 2 + 1, none⟩ = some (.int .u64 (xs.getD i (0, 0)).2)) : Lst W (some ⟨b, 0, none⟩) xs.length (litF xs) :=
  .inr ⟨b, 0, rfl, hb, fun i hi => by
    have h1 := hc i hi
    have h2 := hw i hi
    unfold litF
    rw [hiB_mk _ _ h2.1 h2.2, loB_mk _ _ h2.1 h2.2, Nat.zero_add]
    exact h1⟩
theorem pickL (f : Int) (l : 0 ≤ f) (u : f ≤ 255) (inv : Bool) (s : Option Addr) (n c : Nat) (a : Nat → BitVec 128) (zh zl fl : Int) (hzh : Word zh) (hzl : Word zl) (w : World) (hT : Tab w) (hbig : n ≤ 9223372036854775807) (hl : Lst w s n a)
    (H : pkOk f inv a n = true) (HB : pkB f a n = mkB zh zl) (HF : pkF f inv a n = fl) :
    Calls Tryd.prog 6 #[.int .u8 f, .bool inv, .slice s n c] w fun e w' => e = .returned (.tuple #[.agg #[.int .u64 zh, .int .u64 zl, .int .u8 fl], .bool true]) ∧ Gr w w' := by
  have := pick_yes f l u inv s n c a w hT hbig hl _ fl (Lib.hid H) (Lib.hid HB) (Lib.hid HF)
  rw [hiB_mk zh zl hzh hzl, loB_mk zh zl hzh hzl] at this
  exact this
theorem quiet_hl (f : Int) (l : 0 ≤ f) (u : f ≤ 255) (h k zh zl : Int) (hh : Word h) (hk : Word k) (hzh : Word zh) (hzl : Word zl) (H : nQ f (mkB h k) = mkB zh zl) (w : World) (hT : Tab w) :
    Calls Tryd.prog 7 #[.int .u8 f, .agg #[.int .u64 h, .int .u64 k]] w fun e w' => e = .returned (.agg #[.int .u64 zh, .int .u64 zl]) ∧ Gr w w' := by
  have := quiet_as f l u (mkB h k) _ (Lib.hid H) w hT
  rw [bv_mk h k hh hk, bv_mk zh zl hzh hzl] at this
  exact this
theorem default_hl (f : Int) (l : 0 ≤ f) (u : f ≤ 255) (zh zl : Int) (hzh : Word zh) (hzl : Word zl) (H : nD f = mkB zh zl) (w : World) (hT : Tab w) :
    Calls Tryd.prog 9 #[.int .u8 f] w fun e w' => e = .returned (.agg #[.int .u64 zh, .int .u64 zl]) ∧ Gr w w' := by
  have := default_as f l u _ (Lib.hid H) w hT
  rw [bv_mk zh zl hzh hzl] at this
  exact this
theorem g10a (b : Nat) (w : World) (hT : Tab w) (hb : b < w.heap.size) (c0 : w.cell? ⟨b, 0, none⟩ = some (.int .u64 0)) (c1 : w.cell? ⟨b, 1, none⟩ = some (.int .u64 15360)) (c2 : w.cell? ⟨b, 2, none⟩ = some (.int .u64 0)) (c3 : w.cell? ⟨b, 3, none⟩ = some (.int .u64 64513))
    (c4 : w.cell? ⟨b, 4, none⟩ = some (.int .u64 0)) (c5 : w.cell? ⟨b, 5, none⟩ = some (.int .u64 32261)) :
    Calls Tryd.prog 6 #[.int .u8 0, .bool false, .slice (some ⟨b, 0, none⟩) 3 3] w fun e w' => e = .returned (.tuple #[.agg #[.int .u64 0, .int .u64 65025, .int .u8 1], .bool true]) ∧ Gr w w' :=
  pickL 0 (by decide) (by decide) false _ 3 3 (litF [(0, 15360), (0, 64513), (0, 32261)]) 0 65025 1 wd0 ⟨by decide, by decide⟩ w hT (by decide)
    (lstL w b [(0, 15360), (0, 64513), (0, 32261)] (fun i hi => by
      have : i = 0 ∨ i = 1 ∨ i = 2 := by simp at hi; omega
      rcases this with rfl | rfl | rfl <;> exact ⟨⟨by decide, by decide⟩, ⟨by decide, by decide⟩⟩) hb (fun i hi => by
      have : i = 0 ∨ i = 1 ∨ i = 2 := by simp at hi; omega
      rcases this with rfl | rfl | rfl <;> simp [*])) (by decide +kernel) (by decide +kernel) (by decide +kernel)
theorem g10b (b : Nat) (w : World) (hT : Tab w) (hb : b < w.heap.size) (c0 : w.cell? ⟨b, 0, none⟩ = some (.int .u64 0)) (c1 : w.cell? ⟨b, 1, none⟩ = some (.int .u64 0)) :
    Calls Tryd.prog 6 #[.int .u8 0, .bool false, .slice (some ⟨b, 0, none⟩) 1 1] w fun e w' => e = .returned (.tuple #[.agg #[.int .u64 0, .int .u64 0, .int .u8 0], .bool false]) ∧ Gr w w' :=
  pick_no 0 (by decide) (by decide) false _ 1 1 (litF [(0, 0)]) w hT (by decide)
    (lstL w b [(0, 0)] (fun i hi => by
      obtain rfl : i = 0 := by simp at hi; omega
      exact ⟨wd0, wd0⟩) hb (fun i hi => by
      obtain rfl : i = 0 := by simp at hi; omega
      simp [*])) (Lib.hid (by decide +kernel))
theorem g10c (w : World) (hT : Tab w) : Calls Tryd.prog 7 #[.int .u8 0, .agg #[.int .u64 0, .int .u64 31745]] w fun e w' => e = .returned (.agg #[.int .u64 0, .int .u64 32257]) ∧ Gr w w' :=
  quiet_hl 0 (by decide) (by decide) 0 31745 0 32257 wd0 ⟨by decide, by decide⟩ wd0 ⟨by decide, by decide⟩ (by decide +kernel) w hT
theorem g10d (w : World) (hT : Tab w) : Calls Tryd.prog 9 #[.int .u8 0] w fun e w' => e = .returned (.agg #[.int .u64 0, .int .u64 32256]) ∧ Gr w w' :=
  default_hl 0 (by decide) (by decide) 0 32256 wd0 ⟨by decide, by decide⟩ (by decide +kernel) w hT
set_option maxHeartbeats 2000000 in
theorem goes10_any (w : World) (hT : Tab w) :
    Calls Tryd.prog 5 #[] w fun x w' => x = .returned (.bool true) ∧ Gr w w' := by
  have tok1 : True := trivial

  go_enter Tryd.func5, Tryd.ntmps5
  go_wp2_with (first
    | (go_at_call 6; clear tok1; refine (g10a _ _ (hT.below (by (repeat (first | with_reducible assumption | with_reducible exact Below.refl _ _ | with_reducible apply Below.drew | with_reducible apply below_drewN | with_reducible refine Below.alloc ?_ (by first | omega | (simp <;> omega)) _ | with_reducible refine Below.setCell ?_ (by first | omega | (simp <;> omega)) _ | with_reducible refine Below.trans ?_ (Below.mono (by assumption) (by first | omega | (simp <;> omega))))))) (by simp) (by simp [go_sem]) (by simp [go_sem]) (by simp [go_sem]) (by simp [go_sem]) (by simp [go_sem]) (by simp [go_sem])).mono ?_; rintro e w1 ⟨rfl, hb1⟩; (try (with_reducible replace hb1 := undrew hb1)); obtain ⟨hc1, hf1⟩ := bcell hb1; have hs1 := hb1.size; (try simp at hs1); (try have y1_0_0 : w.heap.size < w1.heap.size := (by omega)); (try have y1_0_1 : w.heap.size < w1.heap.size + 1 := (by omega)); (try have y1_0_2 : w.heap.size < w1.heap.size + 2 := (by omega)))
    | (go_at_call 6; refine (g10b _ _ (hT.below (by (repeat (first | with_reducible assumption | with_reducible exact Below.refl _ _ | with_reducible apply Below.drew | with_reducible apply below_drewN | with_reducible refine Below.alloc ?_ (by first | omega | (simp <;> omega)) _ | with_reducible refine Below.setCell ?_ (by first | omega | (simp <;> omega)) _ | with_reducible refine Below.trans ?_ (Below.mono (by assumption) (by first | omega | (simp <;> omega))))))) (by simp) (by simp [go_sem]) (by simp [go_sem])).mono ?_; rintro e w2 ⟨rfl, hb2⟩; (try (with_reducible replace hb2 := undrew hb2)); obtain ⟨hc2, hf2⟩ := bcell hb2; have hs2 := hb2.size; (try simp at hs2); (try have y2_0_0 : w.heap.size < w2.heap.size := (by omega)); (try have y2_0_1 : w.heap.size < w2.heap.size + 1 := (by omega)); (try have y2_1_0 : w1.heap.size < w2.heap.size := (by omega)); (try have y2_1_1 : w1.heap.size < w2.heap.size + 1 := (by omega)); (try have y2_2_0 : w1.heap.size + 1 < w2.heap.size := (by omega)); (try have y2_2_1 : w1.heap.size + 1 < w2.heap.size + 1 := (by omega)))
    | (go_at_call 7; refine (g10c _ (hT.below (by (repeat (first | with_reducible assumption | with_reducible exact Below.refl _ _ | with_reducible apply Below.drew | with_reducible apply below_drewN | with_reducible refine Below.alloc ?_ (by first | omega | (simp <;> omega)) _ | with_reducible refine Below.setCell ?_ (by first | omega | (simp <;> omega)) _ | with_reducible refine Below.trans ?_ (Below.mono (by assumption) (by first | omega | (simp <;> omega)))))))).mono ?_; rintro e w3 ⟨rfl, hb3⟩; (try (with_reducible replace hb3 := undrew hb3)); obtain ⟨hc3, hf3⟩ := bcell hb3; have hs3 := hb3.size; (try simp at hs3); (try have y3_0_0 : w.heap.size < w3.heap.size := (by omega)); (try have y3_1_0 : w1.heap.size < w3.heap.size := (by omega)); (try have y3_2_0 : w1.heap.size + 1 < w3.heap.size := (by omega)); (try have y3_3_0 : w2.heap.size < w3.heap.size := (by omega)))
    | (go_at_call 9; refine (g10d _ (hT.below (by (repeat (first | with_reducible assumption | with_reducible exact Below.refl _ _ | with_reducible apply Below.drew | with_reducible apply below_drewN | with_reducible refine Below.alloc ?_ (by first | omega | (simp <;> omega)) _ | with_reducible refine Below.setCell ?_ (by first | omega | (simp <;> omega)) _ | with_reducible refine Below.trans ?_ (Below.mono (by assumption) (by first | omega | (simp <;> omega)))))))).mono ?_; rintro e w4 ⟨rfl, hb4⟩; (try (with_reducible replace hb4 := undrew hb4)); obtain ⟨hc4, hf4⟩ := bcell hb4; have hs4 := hb4.size; (try simp at hs4); (try have y4_0_0 : w.heap.size < w4.heap.size := (by omega)); (try have y4_1_0 : w1.heap.size < w4.heap.size := (by omega)); (try have y4_2_0 : w1.heap.size + 1 < w4.heap.size := (by omega)); (try have y4_3_0 : w2.heap.size < w4.heap.size := (by omega))))
  go_ret
  exact ⟨rfl, by (repeat (first | with_reducible assumption | with_reducible exact Below.refl _ _ | with_reducible apply Below.drew | with_reducible apply below_drewN | with_reducible refine Below.alloc ?_ (by first | omega | (simp <;> omega)) _ | with_reducible refine Below.setCell ?_ (by first | omega | (simp <;> omega)) _ | with_reducible refine Below.trans ?_ (Below.mono (by assumption) (by first | omega | (simp <;> omega)))))⟩
end Hb
end Go.Proofs.YtmnoghkbmkiplaaDoor
