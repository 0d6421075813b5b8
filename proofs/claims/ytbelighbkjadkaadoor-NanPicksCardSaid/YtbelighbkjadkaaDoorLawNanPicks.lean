/-
  THE WALK of the law NanPicks. Conditions: the table of the formats holds its numbers; the slice reads as the list.
-/
import Derived.Test.YtbelighbkjadkaaDoorGoes10
import Derived.Test.YtbelighbkjadkaaDoorAppend
import Derived.Test.YtbelighbkjadkaaDoorRef10Pick
namespace Go.Proofs.YtbelighbkjadkaaDoor
open Go.RowKit
namespace Hb
set_option maxRecDepth 20000
theorem Lst.parts {w : World} {s : Option Addr} {n : Nat} {a : Nat → BitVec 128} (h : Lst w s n a) : ∃ b off, (0 < n → s = some ⟨b, off, none⟩) ∧ ∀ i, i < n → b < w.heap.size ∧ w.cell? ⟨b, off + i * 2, none⟩ = some (.int .u64 (hiB (a i))) ∧ w.cell? ⟨b, off + i * 2 + 1, none⟩ = some (.int .u64 (loB (a i))) := by
  rcases h with rfl | ⟨b, off, rfl, hb, hc⟩
  · exact ⟨0, 0, fun h => absurd h (Nat.lt_irrefl _), fun i hi => absurd hi (Nat.not_lt_zero _)⟩
  · exact ⟨b, off, fun _ => rfl, fun i hi => ⟨hb, hc i hi⟩⟩
/-- The worlds of the law's loop. -/
def NpAt (w w1 : World) (g1 g2 : Nat) (h k fl : Int) (wr : World) : Prop :=
  Below w.heap.size w wr ∧ Below w1.heap.size w1 wr ∧ g1 < wr.heap.size ∧ g2 < wr.heap.size ∧ wr.cell? ⟨g1, 0, none⟩ = some (.int .u64 h) ∧ wr.cell? ⟨g1, 1, none⟩ = some (.int .u64 k) ∧ wr.cell? ⟨g1, 2, none⟩ = some (.int .u8 fl) ∧
    wr.cell? ⟨g2, 0, none⟩ = some (.int .u64 h) ∧ wr.cell? ⟨g2, 1, none⟩ = some (.int .u64 k) ∧ wr.cell? ⟨g2, 2, none⟩ = some (.int .u8 fl)
set_option maxHeartbeats 8000000 in
theorem np_core (w : World) (hT : Tab w) (f : Int) (_l : 0 ≤ f) (_u : f ≤ 255) (inv : Bool) (s : Option Addr) (n c : Nat) (a : Nat → BitVec 128) (b0 off : Nat) (hn : n ≤ 50) (h k fl : Int) (r : Bool)
    (HS : Hid (0 < n → s = some ⟨b0, off, none⟩)) (HC : Hid (∀ i, i < n → b0 < w.heap.size ∧ w.cell? ⟨b0, off + i * 2, none⟩ = some (.int .u64 (hiB (a i))) ∧ w.cell? ⟨b0, off + i * 2 + 1, none⟩ = some (.int .u64 (loB (a i)))))
    (HL : Hid (Lst w s n a ∧ (s = none → c = 0)))
    (q1 : ∀ w s c, Tab w → Lst w s n a → Calls Tryd.prog 66 #[.int .u8 f, .bool inv, .slice s n c] w fun e w' => e = .returned (.tuple #[.agg #[.int .u64 h, .int .u64 k, .int .u8 fl], .bool r]) ∧ Gr w w')
    (q2 : ∀ w s c, Lst w s n a → Calls Tryd.prog 67 #[.int .u8 f, .bool inv, .slice s n c] w fun e w' => e = .returned (.tuple #[.agg #[.int .u64 h, .int .u64 k, .int .u8 fl], .bool r]) ∧ Gr w w') :
    Calls Tryd.prog 12 #[.int .u8 f, .bool inv, .slice s n c] w fun e w' => e = .returned (.bool true) ∧ Gr w w' := by
  have dn : decide (50 < (n : Int)) = false := by simp; omega
  have own0 := World.ownsRow_made (base := w.heap.size) (e := 25) (size := 2) w #[] 0 (Nat.le_refl _) (Nat.zero_le _) rfl
  go_enter Tryd.func12, Tryd.ntmps12
  go_upto_region 4 with (first
    | (at_builtin; refine wpList_append_lst rfl (.tmp 16) (.tmp 17) rfl w.heap.size _ 0 [] rfl own0 s n c a rfl (HL.out.1.below ((Below.refl _ _).alloc (Nat.le_refl _) _)) HL.out.2 (by omega) (by simp) ?_; intro v1 w1 hown1 hg1; have hb1 : Below w.heap.size w w1 := ((Below.refl w.heap.size w).alloc (Nat.le_refl _) _).grown hg1 (by simp) (fun k hk => (own0.lt k hk).1); clear own0 hg1; rw [Nat.zero_add, List.nil_append] at hown1; obtain ⟨s2, c2, rfl, hl2⟩ := lst_own hown1; clear hown1; have HL2 := Lib.hid hl2; clear hl2))
  have hs1 := hb1.size
  clear dn
  obtain ⟨b2, off2, hs2, hc2⟩ := HL2.out.parts
  have HS2 := Lib.hid hs2
  have HC2 := Lib.hid hc2
  clear hs2 hc2

  go_wp2_with (first
    | (go_at_call 66; refine (q1 _ _ _ (hT.below (by (repeat (first | with_reducible assumption | with_reducible exact Below.refl _ _ | with_reducible apply Below.drew | with_reducible apply below_drewN | with_reducible refine Below.alloc ?_ (by first | omega | (simp <;> omega)) _ | with_reducible refine Below.setCell ?_ (by first | omega | (simp <;> omega)) _ | with_reducible refine Below.trans ?_ (Below.mono (by assumption) (by first | omega | (simp <;> omega))))))) (HL2.out.below (by (repeat (first | with_reducible assumption | with_reducible exact Below.refl _ _ | with_reducible apply Below.drew | with_reducible apply below_drewN | with_reducible refine Below.alloc ?_ (by first | omega | (simp <;> omega)) _ | with_reducible refine Below.setCell ?_ (by first | omega | (simp <;> omega)) _ | with_reducible refine Below.trans ?_ (Below.mono (by assumption) (by first | omega | (simp <;> omega)))))))).mono ?_; rintro e w2 ⟨rfl, hb2⟩; (try (with_reducible replace hb2 := undrew hb2)); obtain ⟨hc2, hf2⟩ := bcell hb2; have hs2 := hb2.size; (try simp at hs2))
    | (go_at_call 67; refine (q2 _ _ _ (HL.out.1.below (by (repeat (first | with_reducible assumption | with_reducible exact Below.refl _ _ | with_reducible apply Below.drew | with_reducible apply below_drewN | with_reducible refine Below.alloc ?_ (by first | omega | (simp <;> omega)) _ | with_reducible refine Below.setCell ?_ (by first | omega | (simp <;> omega)) _ | with_reducible refine Below.trans ?_ (Below.mono (by assumption) (by first | omega | (simp <;> omega)))))))).mono ?_; rintro e w3 ⟨rfl, hb3⟩; (try (with_reducible replace hb3 := undrew hb3)); obtain ⟨hc3, hf3⟩ := bcell hb3; have hs3 := hb3.size; (try simp at hs3); (try have y3_0_0 : w2.heap.size < w3.heap.size := (by omega)); (try have y3_0_1 : w2.heap.size < w3.heap.size + 1 := (by omega))))
  go_loopw [12] (fun v12 wr => ∃ k' : Nat, k' ≤ n ∧ v12 = .int .i64 k' ∧ Hid (NpAt w w1 w2.heap.size w3.heap.size h k fl wr)) (fun v12 _ => n - (intOf v12).toNat)
  case atStart =>
    refine ⟨0, Nat.zero_le _, rfl, Lib.hid ⟨by (repeat (first | with_reducible assumption | with_reducible exact Below.refl _ _ | with_reducible apply Below.drew | with_reducible apply below_drewN | with_reducible refine Below.alloc ?_ (by first | omega | (simp <;> omega)) _ | with_reducible refine Below.setCell ?_ (by first | omega | (simp <;> omega)) _ | with_reducible refine Below.trans ?_ (Below.mono (by assumption) (by first | omega | (simp <;> omega))))), by (repeat (first | with_reducible assumption | with_reducible exact Below.refl _ _ | with_reducible apply Below.drew | with_reducible apply below_drewN | with_reducible refine Below.alloc ?_ (by first | omega | (simp <;> omega)) _ | with_reducible refine Below.setCell ?_ (by first | omega | (simp <;> omega)) _ | with_reducible refine Below.trans ?_ (Below.mono (by assumption) (by first | omega | (simp <;> omega))))), by first | omega | (simp <;> omega), by first | omega | (simp <;> omega), ?_, ?_, ?_, ?_, ?_, ?_⟩⟩
    all_goals simp (maxDischargeDepth := 9) [go_sem, *]
  case round =>
    obtain ⟨j, hj, rfl, HR⟩ := hrel
    obtain ⟨hbr, hbr1, l1, l2, m0, m1, m2, n0, n1, n2⟩ := HR.out
    by_cases hlt : j < n
    · obtain ⟨hb0, e1, e2⟩ := HC.out j hlt
      obtain ⟨hb2', e3, e4⟩ := HC2.out j hlt
      obtain rfl := HS.out (by omega)
      obtain rfl := HS2.out (by omega)
      have e5 := (hbr.cell (p := ⟨b0, off + j * 2, none⟩) hb0).trans e1
      have e6 := (hbr.cell (p := ⟨b0, off + j * 2 + 1, none⟩) hb0).trans e2
      have e7 := (hbr1.cell (p := ⟨b2, off2 + j * 2, none⟩) hb2').trans e3
      have e8 := (hbr1.cell (p := ⟨b2, off2 + j * 2 + 1, none⟩) hb2').trans e4
      clear e1 e2 e3 e4 HR
      go_wp2
      go_quiet (fail)
      go_wp2
      go_roundw
      case rel =>
        refine ⟨j + 1, by omega, by go_num, Lib.hid ⟨by (repeat (first | with_reducible assumption | with_reducible exact Below.refl _ _ | with_reducible apply Below.drew | with_reducible apply below_drewN | with_reducible refine Below.alloc ?_ (by first | omega | (simp <;> omega)) _ | with_reducible refine Below.setCell ?_ (by first | omega | (simp <;> omega)) _ | with_reducible refine Below.trans ?_ (Below.mono (by assumption) (by first | omega | (simp <;> omega))))), by (repeat (first | with_reducible assumption | with_reducible exact Below.refl _ _ | with_reducible apply Below.drew | with_reducible apply below_drewN | with_reducible refine Below.alloc ?_ (by first | omega | (simp <;> omega)) _ | with_reducible refine Below.setCell ?_ (by first | omega | (simp <;> omega)) _ | with_reducible refine Below.trans ?_ (Below.mono (by assumption) (by first | omega | (simp <;> omega))))), l1, l2, m0, m1, m2, n0, n1, n2⟩⟩
      case measure => simp [intOf]; omega
    · obtain rfl : j = n := by omega
      have hszr := hbr.size

      go_wp2_with (first
        | (go_at_call 65; refine (goes10_any _ (hT.below (by (repeat (first | with_reducible assumption | with_reducible exact Below.refl _ _ | with_reducible apply Below.drew | with_reducible apply below_drewN | with_reducible refine Below.alloc ?_ (by first | omega | (simp <;> omega)) _ | with_reducible refine Below.setCell ?_ (by first | omega | (simp <;> omega)) _ | with_reducible refine Below.trans ?_ (Below.mono (by assumption) (by first | omega | (simp <;> omega)))))))).mono ?_; rintro e w4 ⟨rfl, hb4⟩; (try (with_reducible replace hb4 := undrew hb4)); obtain ⟨hc4, hf4⟩ := bcell hb4; have hs4 := hb4.size; (try simp at hs4)))
      go_ret
      exact ⟨rfl, by (repeat (first | with_reducible assumption | with_reducible exact Below.refl _ _ | with_reducible apply Below.drew | with_reducible apply below_drewN | with_reducible refine Below.alloc ?_ (by first | omega | (simp <;> omega)) _ | with_reducible refine Below.setCell ?_ (by first | omega | (simp <;> omega)) _ | with_reducible refine Below.trans ?_ (Below.mono (by assumption) (by first | omega | (simp <;> omega)))))⟩
theorem walk_nanPicks (w : World) (hT : Tab w) (f : Int) (l : 0 ≤ f) (u : f ≤ 255) (inv : Bool) (s : Option Addr) (n c : Nat) (a : Nat → BitVec 128) (hl : Lst w s n a ∧ n ≤ 9223372036854775807 ∧ (s = none → c = 0)) :
    Calls Tryd.prog 12 #[.int .u8 f, .bool inv, .slice s n c] w fun e w' => e = .returned (.bool true) ∧ Gr w w' := by
  obtain ⟨hl, hbn, hsn⟩ := hl
  by_cases hn : n ≤ 50
  · obtain ⟨b0, off, hs, hc⟩ := hl.parts
    cases hok : pkOk f inv a n
    · exact np_core w hT f l u inv s n c a b0 off hn 0 0 0 false (Lib.hid hs) (Lib.hid hc) (Lib.hid ⟨hl, hsn⟩) (fun w s c hT hl => pick_no f l u inv s n c a w hT hbn hl (Lib.hid hok)) (fun w s c hl => rpick_no f l u inv s n c a w hn hl (Lib.hid hok))
    · exact np_core w hT f l u inv s n c a b0 off hn _ _ _ true (Lib.hid hs) (Lib.hid hc) (Lib.hid ⟨hl, hsn⟩) (fun w s c hT hl => pick_yes f l u inv s n c a w hT hbn hl _ _ (Lib.hid hok) (Lib.hid rfl) (Lib.hid rfl)) (fun w s c hl => rpick_yes f l u inv s n c a w hn hl _ _ (Lib.hid hok) (Lib.hid rfl) (Lib.hid rfl))
  · have dn : decide (50 < (n : Int)) = true := by simp; omega
    clear hl hsn
    go_enter Tryd.func12, Tryd.ntmps12
    go_wp2
    go_ret
    exact ⟨rfl, Below.refl _ _⟩
end Hb
end Go.Proofs.YtbelighbkjadkaaDoor
