/-
  THE WALK of nan.Pick: it hands back what the plain part says; what stood in memory stands. Conditions: the table of the formats holds its numbers; the slice reads as the list.
-/
import Derived.Test.YtmnoghkbmkiplaaDoorList
import Derived.Test.YtmnoghkbmkiplaaDoorNan
namespace Go.Proofs.YtmnoghkbmkiplaaDoor
open Go.RowKit
namespace Hb
set_option maxRecDepth 20000
def pkOk (f : Int) (inv : Bool) (a : Nat → BitVec 128) (n : Nat) : Bool := fKn f && (inv || anyF (cNaN f) a n)
def pkB (f : Int) (a : Nat → BitVec 128) (n : Nat) : BitVec 128 := if 0 ≤ idxF (cNaN f) a n then nQ f (a (idxF (cNaN f) a n).toNat) else nD f
def pkF (f : Int) (inv : Bool) (a : Nat → BitVec 128) (n : Nat) : Int := if inv || anyF (cSig f) a n then 1 else 0
theorem pick1_pred (f : Int) (l : 0 ≤ f) (u : f ≤ 255) (B : Nat) (w : World) (hT : Tab w) (hB : B < w.heap.size) (h : w.cell? ⟨B, 0, none⟩ = some (.int .u8 f)) :
    PredB 11 #[.pointer (some ⟨B, 0, none⟩)] (cNaN f) w := fun W x hb => by
  have c1 := (hb.cell (p := ⟨B, 0, none⟩) hB).trans h
  have l1 : B < W.heap.size := Nat.lt_of_lt_of_le hB hb.size
  have hbs := hb.size
  have n1 : ¬ B = W.heap.size := by omega
  have hTW := hT.below hb
  show Calls Tryd.prog 11 #[Bv x, .pointer (some ⟨B, 0, none⟩)] W _
  obtain ⟨r, hr⟩ : ∃ r, cNaN f x = r := ⟨_, rfl⟩
  rw [hr]
  have HN := Lib.hid hr
  clear hr h hT
  simp only [Bv]
  go_enter Tryd.func11, Tryd.ntmps11
  go_wp2_with (go_at_call 4; refine (nan_as f l u x _ HN _ (hTW.below (by (repeat (first | exact Below.refl _ _ | assumption | apply Below.drew | apply below_drewN | refine Below.alloc ?_ (by first | omega | (simp <;> omega)) _ | refine Below.setCell ?_ (by first | omega | (simp <;> omega)) _ | refine Below.trans ?_ (Below.mono (by assumption) (by first | omega | (simp <;> omega)))))))).mono ?_; rintro e w' ⟨rfl, hb'⟩)
  go_ret
  exact ⟨rfl, by (repeat (first | exact Below.refl _ _ | assumption | apply Below.drew | apply below_drewN | refine Below.alloc ?_ (by first | omega | (simp <;> omega)) _ | refine Below.setCell ?_ (by first | omega | (simp <;> omega)) _ | refine Below.trans ?_ (Below.mono (by assumption) (by first | omega | (simp <;> omega)))))⟩
theorem anySig_as (f : Int) (l : 0 ≤ f) (u : f ≤ 255) (s : Option Addr) (n c : Nat) (a : Nat → BitVec 128) (r : Bool) (H : Hid (anyF (cSig f) a n = r)) (w : World) (hT : Tab w) (hbig : n ≤ 9223372036854775807) (hl : Lst w s n a) :
    Calls Tryd.prog 13 #[.int .u8 f, .func (.func 14) #[] #[], .slice s n c] w fun e w' => e = .returned (.bool r) ∧ Gr w w' :=
  any_core 14 (Go.Proofs.enters_of Tryd.func14 (by kernel_rfl) rfl) f (cSig f) s n c a r H w (fun W x hb => sig_as f l u x _ (Lib.hid rfl) W (hT.below hb)) hbig hl
theorem anyNaN_as (f : Int) (l : 0 ≤ f) (u : f ≤ 255) (s : Option Addr) (n c : Nat) (a : Nat → BitVec 128) (r : Bool) (H : Hid (anyF (cNaN f) a n = r)) (w : World) (hT : Tab w) (hbig : n ≤ 9223372036854775807) (hl : Lst w s n a) :
    Calls Tryd.prog 13 #[.int .u8 f, .func (.func 4) #[] #[], .slice s n c] w fun e w' => e = .returned (.bool r) ∧ Gr w w' :=
  any_core 4 (Go.Proofs.enters_of Tryd.func4 (by kernel_rfl) rfl) f (cNaN f) s n c a r H w (fun W x hb => nan_as f l u x _ (Lib.hid rfl) W (hT.below hb)) hbig hl
/-- The call of slices.IndexFunc, in the world in which Pick makes it. -/
theorem pick_index (f : Int) (l : 0 ≤ f) (u : f ≤ 255) (s : Option Addr) (n c : Nat) (a : Nat → BitVec 128) (w : World) (hT : Tab w) (hbig : n ≤ 9223372036854775807) (hl : Lst w s n a) :
    Calls Tryd.prog 10 #[.slice s n c, .func (.func 11) #[] #[.pointer (some ⟨w.heap.size, 0, none⟩)]]
      ((w.alloc (.cells #[.int .u8 f] 22)).alloc (.cells #[.int .u64 0, .int .u64 0, .int .u8 0] 31)) fun e w' => e = .returned (.int .i64 (idxF (cNaN f) a n)) ∧
        Below ((w.alloc (.cells #[.int .u8 f] 22)).alloc (.cells #[.int .u64 0, .int .u64 0, .int .u8 0] 31)).heap.size ((w.alloc (.cells #[.int .u8 f] 22)).alloc (.cells #[.int .u64 0, .int .u64 0, .int .u8 0] 31)) w' := by
  have hG : Below w.heap.size w ((w.alloc (.cells #[.int .u8 f] 22)).alloc (.cells #[.int .u64 0, .int .u64 0, .int .u8 0] 31)) := ((Below.refl _ _).alloc (Nat.le_refl _) _).alloc (by simp) _
  exact index_any 11 _ (Go.Proofs.enters_of Tryd.func11 (by kernel_rfl) rfl) (cNaN f) s n c a _ (pick1_pred f l u w.heap.size _ (hT.below hG) (by simp; omega) (by simp [go_sem])) hbig (hl.below hG)
set_option maxHeartbeats 2000000 in
theorem pick_no (f : Int) (l : 0 ≤ f) (u : f ≤ 255) (inv : Bool) (s : Option Addr) (n c : Nat) (a : Nat → BitVec 128) (w : World) (hT : Tab w) (hbig : n ≤ 9223372036854775807) (hl : Lst w s n a) (H : Hid (pkOk f inv a n = false)) :
    Calls Tryd.prog 6 #[.int .u8 f, .bool inv, .slice s n c] w fun e w' => e = .returned (.tuple #[.agg #[.int .u64 0, .int .u64 0, .int .u8 0], .bool false]) ∧ Gr w w' := by
  have hmf : ∀ (fn : Fn) (first cap : Array Value) (w : World), (Instr.makeFunc fn first cap).run Tryd.prog w = .ok (.func fn first cap) w := fun _ _ _ _ => rfl
  have hcon := pick_index f l u s n c a w hT hbig hl
  have hi := idx_lt (cNaN f) a n
  have hH := H.out
  unfold pkOk at hH
  rw [any_idx] at hH
  generalize idxF (cNaN f) a n = i at hcon hi hH
  clear H
  by_cases h : f < 4
  · have hk : fKn f = true := by unfold fKn; simpa using h
    rw [hk, Bool.true_and] at hH
    have h1 : inv = false := by cases inv; rfl; simp at hH
    subst h1
    have h2 : i = -1 := by simp at hH; omega
    subst h2
    clear hH hi hk
    have o2_0 : w.heap.size < w.heap.size + 1 + 1 := by omega
    go_enter Tryd.func6, Tryd.ntmps6
    go_wp2_with (first
      | (go_at_call 12; refine (known_yes f l h _).mono ?_; rintro e wq ⟨rfl, rfl⟩)
      | (go_at_call 10; refine (hcon).mono ?_; rintro e w1 ⟨rfl, hb1⟩; (try (with_reducible replace hb1 := undrew hb1)); obtain ⟨hc1, hf1⟩ := bcell hb1; have hs1 := hb1.size; (try simp at hs1); (try have y1_0_0 : w.heap.size < w1.heap.size := (by omega)); (try have y1_1_0 : w.heap.size + 1 < w1.heap.size := (by omega))))
    clear hcon hmf hl hT
    simp [bodyPost, results, Tryd.results6, go_sem, *]
    (repeat (first | with_reducible assumption | with_reducible exact Below.refl _ _ | with_reducible apply Below.drew | with_reducible apply below_drewN | with_reducible refine Below.alloc ?_ (by first | omega | (simp <;> omega)) _ | with_reducible refine Below.setCell ?_ (by first | omega | (simp <;> omega)) _ | with_reducible refine Below.trans ?_ (Below.mono (by assumption) (by first | omega | (simp <;> omega)))))
  · clear hH
    have o2_0 : w.heap.size < w.heap.size + 1 + 1 := by omega
    go_enter Tryd.func6, Tryd.ntmps6
    go_wp2_with (first
      | (go_at_call 12; refine (known_no f l u (by omega) _).mono ?_; rintro e wq ⟨rfl, rfl⟩)
      | (go_at_call 10; refine (hcon).mono ?_; rintro e w1 ⟨rfl, hb1⟩; (try (with_reducible replace hb1 := undrew hb1)); obtain ⟨hc1, hf1⟩ := bcell hb1; have hs1 := hb1.size; (try simp at hs1); (try have y1_0_0 : w.heap.size < w1.heap.size := (by omega)); (try have y1_1_0 : w.heap.size + 1 < w1.heap.size := (by omega))))
    clear hcon hmf hl hT
    simp [bodyPost, results, Tryd.results6, go_sem, *]
    (repeat (first | with_reducible assumption | with_reducible exact Below.refl _ _ | with_reducible apply Below.drew | with_reducible apply below_drewN | with_reducible refine Below.alloc ?_ (by first | omega | (simp <;> omega)) _ | with_reducible refine Below.setCell ?_ (by first | omega | (simp <;> omega)) _ | with_reducible refine Below.trans ?_ (Below.mono (by assumption) (by first | omega | (simp <;> omega)))))
set_option maxHeartbeats 4000000 in
theorem pick_core (f : Int) (l : 0 ≤ f) (u : f ≤ 255) (h : f < 4) (inv : Bool) (s : Option Addr) (n c : Nat) (a : Nat → BitVec 128) (w : World) (hT : Tab w) (hbig : n ≤ 9223372036854775807) (hl : Lst w s n a) (z D : BitVec 128) (g : Bool) (i fl : Int)
    (HI : Hid (idxF (cNaN f) a n = i)) (HD : Hid (nD f = D)) (HG : Hid (anyF (cSig f) a n = g)) (hfl : ((inv = true ∧ fl = 1) ∨ (inv = false ∧ g = true ∧ fl = 1) ∨ (inv = false ∧ g = false ∧ fl = 0)))
    (hi : (i = -1 ∧ inv = true ∧ z = D) ∨ (∃ (b off k : Nat) (x : BitVec 128), i = (k : Int) ∧ k < n ∧ s = some ⟨b, off, none⟩ ∧ b < w.heap.size ∧ w.cell? ⟨b, off + k * 2, none⟩ = some (.int .u64 (hiB x)) ∧ w.cell? ⟨b, off + k * 2 + 1, none⟩ = some (.int .u64 (loB x)) ∧ Hid (nQ f x = z))) :
    Calls Tryd.prog 6 #[.int .u8 f, .bool inv, .slice s n c] w fun e w' => e = .returned (.tuple #[.agg #[.int .u64 (hiB z), .int .u64 (loB z), .int .u8 fl], .bool true]) ∧ Gr w w' := by
  have hmf : ∀ (fn : Fn) (first cap : Array Value) (w : World), (Instr.makeFunc fn first cap).run Tryd.prog w = .ok (.func fn first cap) w := fun _ _ _ _ => rfl
  have hcon := pick_index f l u s n c a w hT hbig hl
  rw [HI.out] at hcon
  rcases hi with ⟨rfl, rfl, rfl⟩ | ⟨b, off, k, x, rfl, hk, rfl, hbl, hx1, hx2, HQ⟩
  · obtain rfl : fl = 1 := by rcases hfl with h | h | h <;> simp_all
    clear hfl
    have o2_0 : w.heap.size < w.heap.size + 1 + 1 := by omega
    go_enter Tryd.func6, Tryd.ntmps6
    go_wp2_with (first
      | (go_at_call 12; refine (known_yes f l h _).mono ?_; rintro e wq ⟨rfl, rfl⟩)
      | (go_at_call 10; refine (hcon).mono ?_; rintro e w1 ⟨rfl, hb1⟩; (try (with_reducible replace hb1 := undrew hb1)); obtain ⟨hc1, hf1⟩ := bcell hb1; have hs1 := hb1.size; (try simp at hs1); (try have y1_0_0 : w.heap.size < w1.heap.size := (by omega)); (try have y1_1_0 : w.heap.size + 1 < w1.heap.size := (by omega)))
      | (go_at_call 9; refine (default_as f l u _ HD _ (hT.below (by (repeat (first | exact Below.refl _ _ | assumption | apply Below.drew | apply below_drewN | refine Below.alloc ?_ (by first | omega | (simp <;> omega)) _ | refine Below.setCell ?_ (by first | omega | (simp <;> omega)) _ | refine Below.trans ?_ (Below.mono (by assumption) (by first | omega | (simp <;> omega)))))))).mono ?_; rintro e w2 ⟨rfl, hb2⟩; (try (with_reducible replace hb2 := undrew hb2)); obtain ⟨hc2, hf2⟩ := bcell hb2; have hs2 := hb2.size; (try simp at hs2); (try have y2_0_0 : w.heap.size < w2.heap.size := (by omega)); (try have y2_0_1 : w.heap.size < w2.heap.size + 1 := (by omega)); (try have y2_1_0 : w.heap.size + 1 < w2.heap.size := (by omega)); (try have y2_1_1 : w.heap.size + 1 < w2.heap.size + 1 := (by omega))))
    clear hcon hmf hl hT
    simp [bodyPost, results, Tryd.results6, go_sem, *]
    (repeat (first | with_reducible assumption | with_reducible exact Below.refl _ _ | with_reducible apply Below.drew | with_reducible apply below_drewN | with_reducible refine Below.alloc ?_ (by first | omega | (simp <;> omega)) _ | with_reducible refine Below.setCell ?_ (by first | omega | (simp <;> omega)) _ | with_reducible refine Below.trans ?_ (Below.mono (by assumption) (by first | omega | (simp <;> omega)))))
  · have ob1 : b < w.heap.size + 1 := by omega
    have ob2 : b < w.heap.size + 1 + 1 := by omega
    rcases hfl with ⟨rfl, rfl⟩ | ⟨rfl, rfl, rfl⟩ | ⟨rfl, rfl, rfl⟩
    all_goals
      have o2_0 : w.heap.size < w.heap.size + 1 + 1 := by omega

      go_enter Tryd.func6, Tryd.ntmps6
      go_wp2_with (first
        | (go_at_call 12; refine (known_yes f l h _).mono ?_; rintro e wq ⟨rfl, rfl⟩)
        | (go_at_call 10; refine (hcon).mono ?_; rintro e w1 ⟨rfl, hb1⟩; (try (with_reducible replace hb1 := undrew hb1)); obtain ⟨hc1, hf1⟩ := bcell hb1; have hs1 := hb1.size; (try simp at hs1); (try have y1_0_0 : w.heap.size < w1.heap.size := (by omega)); (try have y1_1_0 : w.heap.size + 1 < w1.heap.size := (by omega)); (try have y1_2_0 : b < w1.heap.size := (by omega)))
        | (go_at_call 9; refine (default_as f l u _ HD _ (hT.below (by (repeat (first | exact Below.refl _ _ | assumption | apply Below.drew | apply below_drewN | refine Below.alloc ?_ (by first | omega | (simp <;> omega)) _ | refine Below.setCell ?_ (by first | omega | (simp <;> omega)) _ | refine Below.trans ?_ (Below.mono (by assumption) (by first | omega | (simp <;> omega)))))))).mono ?_; rintro e w2 ⟨rfl, hb2⟩; (try (with_reducible replace hb2 := undrew hb2)); obtain ⟨hc2, hf2⟩ := bcell hb2; have hs2 := hb2.size; (try simp at hs2); (try have y2_0_0 : w.heap.size < w2.heap.size := (by omega)); (try have y2_0_1 : w.heap.size < w2.heap.size + 1 := (by omega)); (try have y2_1_0 : w.heap.size + 1 < w2.heap.size := (by omega)); (try have y2_1_1 : w.heap.size + 1 < w2.heap.size + 1 := (by omega)); (try have y2_2_0 : b < w2.heap.size := (by omega)); (try have y2_2_1 : b < w2.heap.size + 1 := (by omega))))
      go_region_held3 (fun w' => w'.cell? ⟨w.heap.size, 0, none⟩ = some (.int .u8 f) ∧ w'.cell? ⟨b, off + k * 2, none⟩ = some (.int .u64 (hiB x)) ∧ w'.cell? ⟨b, off + k * 2 + 1, none⟩ = some (.int .u64 (loB x)))
        (simp [go_sem, World.cell?_alloc_past, *])
        (first | (go_at_call 7; refine (quiet_as f l u x _ HQ _ (hT.below (by (repeat (first | exact Below.refl _ _ | assumption | apply Below.drew | apply below_drewN | refine Below.alloc ?_ (by first | omega | (simp <;> omega)) _ | refine Below.setCell ?_ (by first | omega | (simp <;> omega)) _ | refine Below.trans ?_ (Below.mono (by assumption) (by first | omega | (simp <;> omega)))))))).mono ?_; rintro e w3 ⟨rfl, hb3⟩; (try (with_reducible replace hb3 := undrew hb3)); obtain ⟨hc3, hf3⟩ := bcell hb3; have hs3 := hb3.size; (try simp at hs3); (try have y3_0_0 : w.heap.size < w3.heap.size := (by omega)); (try have y3_1_0 : w.heap.size + 1 < w3.heap.size := (by omega)); (try have y3_2_0 : b < w3.heap.size := (by omega)); (try have y3_3_0 : w2.heap.size < w3.heap.size := (by omega))))
      go_wp2_with (first
        | (go_at_call 13; refine (anySig_as f l u _ n c a _ HG _ (hT.below (by (repeat (first | exact Below.refl _ _ | assumption | apply Below.drew | apply below_drewN | refine Below.alloc ?_ (by first | omega | (simp <;> omega)) _ | refine Below.setCell ?_ (by first | omega | (simp <;> omega)) _ | refine Below.trans ?_ (Below.mono (by assumption) (by first | omega | (simp <;> omega))))))) hbig (hl.below (by (repeat (first | with_reducible assumption | with_reducible exact Below.refl _ _ | with_reducible apply Below.drew | with_reducible apply below_drewN | with_reducible refine Below.alloc ?_ (by first | omega | (simp <;> omega)) _ | with_reducible refine Below.setCell ?_ (by first | omega | (simp <;> omega)) _ | with_reducible refine Below.trans ?_ (Below.mono (by assumption) (by first | omega | (simp <;> omega)))))))).mono ?_; rintro e w4 ⟨rfl, hb4⟩; (try (with_reducible replace hb4 := undrew hb4)); obtain ⟨hc4, hf4⟩ := bcell hb4; have hs4 := hb4.size; (try simp at hs4); (try have y4_0_0 : w.heap.size < w4.heap.size := (by omega)); (try have y4_1_0 : w.heap.size + 1 < w4.heap.size := (by omega)); (try have y4_2_0 : b < w4.heap.size := (by omega)); (try have y4_3_0 : w2.heap.size < w4.heap.size := (by omega))))
      clear hcon hmf hl hT HG HI HD
      simp [bodyPost, results, Tryd.results6, go_sem, *]
      (repeat (first | with_reducible assumption | with_reducible exact Below.refl _ _ | with_reducible apply Below.drew | with_reducible apply below_drewN | with_reducible refine Below.alloc ?_ (by first | omega | (simp <;> omega)) _ | with_reducible refine Below.setCell ?_ (by first | omega | (simp <;> omega)) _ | with_reducible refine Below.trans ?_ (Below.mono (by assumption) (by first | omega | (simp <;> omega)))))
theorem pick_yes (f : Int) (l : 0 ≤ f) (u : f ≤ 255) (inv : Bool) (s : Option Addr) (n c : Nat) (a : Nat → BitVec 128) (w : World) (hT : Tab w) (hbig : n ≤ 9223372036854775807) (hl : Lst w s n a) (z : BitVec 128) (fl : Int)
    (H : Hid (pkOk f inv a n = true)) (HB : Hid (pkB f a n = z)) (HF : Hid (pkF f inv a n = fl)) :
    Calls Tryd.prog 6 #[.int .u8 f, .bool inv, .slice s n c] w fun e w' => e = .returned (.tuple #[.agg #[.int .u64 (hiB z), .int .u64 (loB z), .int .u8 fl], .bool true]) ∧ Gr w w' := by
  have hi := idx_lt (cNaN f) a n
  have hH := H.out
  have hB := HB.out
  have hF := HF.out
  unfold pkOk at hH
  rw [any_idx, Bool.and_eq_true] at hH
  obtain ⟨hk, hH⟩ := hH
  have h : f < 4 := by unfold fKn at hk; simpa using hk
  unfold pkB at hB
  unfold pkF at hF
  refine pick_core f l u h inv s n c a w hT hbig hl z (nD f) (anyF (cSig f) a n) (idxF (cNaN f) a n) fl (Lib.hid rfl) (Lib.hid rfl) (Lib.hid rfl) ?_ ?_
  · subst hF
    cases inv
    · cases anyF (cSig f) a n
      · exact .inr (.inr ⟨rfl, rfl, rfl⟩)
      · exact .inr (.inl ⟨rfl, rfl, rfl⟩)
    · exact .inl ⟨rfl, rfl⟩
  · by_cases h0 : 0 ≤ idxF (cNaN f) a n
    · rw [if_pos h0] at hB
      rcases hl with rfl | ⟨b, off, rfl, hb, hc⟩
      · omega
      · obtain ⟨k, hk⟩ := Int.eq_ofNat_of_zero_le h0
        rw [hk] at hB hi
        have := hc k (by omega)
        exact .inr ⟨b, off, k, a k, hk, by omega, rfl, hb, this.1, this.2, Lib.hid (by simpa using hB)⟩
    · rw [if_neg h0] at hB
      refine .inl ⟨by omega, ?_, hB.symm⟩
      rw [decide_eq_false h0, Bool.or_false] at hH
      exact hH
end Hb
end Go.Proofs.YtmnoghkbmkiplaaDoor
