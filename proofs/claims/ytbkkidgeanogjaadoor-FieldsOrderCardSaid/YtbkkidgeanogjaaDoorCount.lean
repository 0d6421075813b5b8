/-
  THE WALKS of package count: each function hands back what the plain part says; what stood in memory stands. Conditions: for Tail that the library's table holds its numbers.
-/
import Derived.Test.YtbkkidgeanogjaaDoorLen
import Derived.Test.YtbkkidgeanogjaaDoorWide
import Derived.Test.YtbkkidgeanogjaaDoorCountPlain
namespace Go.Proofs.YtbkkidgeanogjaaDoor
open Go.RowKit
namespace Hb
set_option maxRecDepth 20000
theorem bitLen_bd (a : Int) (h0 : 0 ≤ a) (h1 : a < 18446744073709551616) : 0 ≤ (Lib.bitLen a.toNat : Int) ∧ (Lib.bitLen a.toNat : Int) ≤ 64 := by
  rw [bitLen_blen _ (by omega)]
  have := (blen_le a.toNat 64).2 (by omega)
  omega
theorem length2_core (b : Nat) (a0 a1 r : Int) (w : World) (h0 : w.cell? ⟨b, 0, none⟩ = some (.int .u64 a0)) (h1 : w.cell? ⟨b, 1, none⟩ = some (.int .u64 a1)) (g0 : Word a0) (g1 : Word a1)
    (h : ((a1 != 0) = true ∧ Hid (r = 64 + (Lib.bitLen a1.toNat : Int))) ∨ (a1 = 0 ∧ (a0 != 0) = true ∧ Hid (r = (Lib.bitLen a0.toNat : Int))) ∨ (a1 = 0 ∧ a0 = 0 ∧ r = 0)) :
    Calls Tryd.prog 61 #[.slice (some ⟨b, 0, none⟩) 2 2] w fun e w' => e = .returned (.int .i64 r) ∧ w = w' := by
  obtain ⟨u0, v0⟩ := g0
  obtain ⟨u1, v1⟩ := g1

  rcases h with ⟨e1, H⟩ | ⟨rfl, e0, H⟩ | ⟨rfl, rfl, rfl⟩
  · have q1 := bitLen_bd a1 u1 v1
    go_enter Tryd.func61, Tryd.ntmps61
    go_wp2
    refine wp_loop_rounds 3 ?_
    rw [rounds_succ]
    go_wp2_with (go_at_call 64; refine (len64_any a1 u1 v1 _).mono ?_; rintro e w' ⟨rfl, rfl⟩)
    go_ret
    exact ⟨by rw [H.out]; rfl, rfl⟩
  · have q0 := bitLen_bd a0 u0 v0
    go_enter Tryd.func61, Tryd.ntmps61
    go_wp2
    refine wp_loop_rounds 3 ?_
    rw [rounds_succ]
    go_wp2
    rw [rounds_succ]
    go_wp2_with (go_at_call 64; refine (len64_any a0 u0 v0 _).mono ?_; rintro e w' ⟨rfl, rfl⟩)
    go_ret
    exact ⟨by rw [H.out]; rfl, rfl⟩
  · go_enter Tryd.func61, Tryd.ntmps61
    go_wp2
    refine wp_loop_rounds 3 ?_
    rw [rounds_succ]
    go_wp2
    rw [rounds_succ]
    go_wp2
    rw [rounds_succ]
    go_wp2
    go_ret
    exact ⟨rfl, rfl⟩
theorem length2_any (b : Nat) (x : BitVec 128) (w : World) (h0 : w.cell? ⟨b, 0, none⟩ = some (.int .u64 (loB x))) (h1 : w.cell? ⟨b, 1, none⟩ = some (.int .u64 (hiB x))) :
    Calls Tryd.prog 61 #[.slice (some ⟨b, 0, none⟩) 2 2] w fun e w' => e = .returned (.int .i64 (bLen x)) ∧ w = w' := by
  refine length2_core b _ _ _ w h0 h1 (loB_word x) (hiB_word x) ?_
  rw [← len2_b]
  unfold len2
  by_cases e1 : hiB x = 0
  · by_cases e0 : loB x = 0
    · refine .inr (.inr ⟨e1, e0, ?_⟩); rw [if_pos e1, if_pos e0]
    · refine .inr (.inl ⟨e1, by simpa using e0, Lib.hid ?_⟩); rw [if_pos e1, if_neg e0]
  · refine .inl ⟨by simpa using e1, Lib.hid ?_⟩; rw [if_neg e1]
theorem length4_core (b : Nat) (a0 a1 a2 a3 r : Int) (w : World) (h0 : w.cell? ⟨b, 0, none⟩ = some (.int .u64 a0)) (h1 : w.cell? ⟨b, 1, none⟩ = some (.int .u64 a1)) (h2 : w.cell? ⟨b, 2, none⟩ = some (.int .u64 a2)) (h3 : w.cell? ⟨b, 3, none⟩ = some (.int .u64 a3)) (g0 : Word a0) (g1 : Word a1) (g2 : Word a2) (g3 : Word a3)
    (h : ((a3 != 0) = true ∧ Hid (r = 192 + (Lib.bitLen a3.toNat : Int))) ∨ (a3 = 0 ∧ (a2 != 0) = true ∧ Hid (r = 128 + (Lib.bitLen a2.toNat : Int))) ∨ (a3 = 0 ∧ a2 = 0 ∧ (a1 != 0) = true ∧ Hid (r = 64 + (Lib.bitLen a1.toNat : Int))) ∨ (a3 = 0 ∧ a2 = 0 ∧ a1 = 0 ∧ (a0 != 0) = true ∧ Hid (r = (Lib.bitLen a0.toNat : Int))) ∨ (a3 = 0 ∧ a2 = 0 ∧ a1 = 0 ∧ a0 = 0 ∧ r = 0)) :
    Calls Tryd.prog 61 #[.slice (some ⟨b, 0, none⟩) 4 4] w fun e w' => e = .returned (.int .i64 r) ∧ w = w' := by
  obtain ⟨u0, v0⟩ := g0
  obtain ⟨u1, v1⟩ := g1
  obtain ⟨u2, v2⟩ := g2
  obtain ⟨u3, v3⟩ := g3
  rcases h with ⟨e1, H⟩ | ⟨rfl, e1, H⟩ | ⟨rfl, rfl, e1, H⟩ | ⟨rfl, rfl, rfl, e1, H⟩ | ⟨rfl, rfl, rfl, rfl, rfl⟩
  · have q1 := bitLen_bd a3 u3 v3
    go_enter Tryd.func61, Tryd.ntmps61
    go_wp2
    refine wp_loop_rounds 5 ?_
    rw [rounds_succ]
    go_wp2_with (go_at_call 64; refine (len64_any a3 u3 v3 _).mono ?_; rintro e w' ⟨rfl, rfl⟩)
    go_ret
    exact ⟨by rw [H.out]; rfl, rfl⟩
  · have q1 := bitLen_bd a2 u2 v2
    go_enter Tryd.func61, Tryd.ntmps61
    go_wp2
    refine wp_loop_rounds 5 ?_
    rw [rounds_succ]
    go_wp2
    rw [rounds_succ]
    go_wp2_with (go_at_call 64; refine (len64_any a2 u2 v2 _).mono ?_; rintro e w' ⟨rfl, rfl⟩)
    go_ret
    exact ⟨by rw [H.out]; rfl, rfl⟩
  · have q1 := bitLen_bd a1 u1 v1
    go_enter Tryd.func61, Tryd.ntmps61
    go_wp2
    refine wp_loop_rounds 5 ?_
    rw [rounds_succ]
    go_wp2
    rw [rounds_succ]
    go_wp2
    rw [rounds_succ]
    go_wp2_with (go_at_call 64; refine (len64_any a1 u1 v1 _).mono ?_; rintro e w' ⟨rfl, rfl⟩)
    go_ret
    exact ⟨by rw [H.out]; rfl, rfl⟩
  · have q1 := bitLen_bd a0 u0 v0
    go_enter Tryd.func61, Tryd.ntmps61
    go_wp2
    refine wp_loop_rounds 5 ?_
    rw [rounds_succ]
    go_wp2
    rw [rounds_succ]
    go_wp2
    rw [rounds_succ]
    go_wp2
    rw [rounds_succ]
    go_wp2_with (go_at_call 64; refine (len64_any a0 u0 v0 _).mono ?_; rintro e w' ⟨rfl, rfl⟩)
    go_ret
    exact ⟨by rw [H.out]; rfl, rfl⟩
  · go_enter Tryd.func61, Tryd.ntmps61
    go_wp2
    refine wp_loop_rounds 5 ?_
    rw [rounds_succ]
    go_wp2
    rw [rounds_succ]
    go_wp2
    rw [rounds_succ]
    go_wp2
    rw [rounds_succ]
    go_wp2
    rw [rounds_succ]
    go_wp2
    go_ret
    exact ⟨rfl, rfl⟩
theorem length4_any (b : Nat) (x : BitVec 256) (w : World) (h0 : w.cell? ⟨b, 0, none⟩ = some (.int .u64 (wq0 x))) (h1 : w.cell? ⟨b, 1, none⟩ = some (.int .u64 (wq1 x))) (h2 : w.cell? ⟨b, 2, none⟩ = some (.int .u64 (wq2 x))) (h3 : w.cell? ⟨b, 3, none⟩ = some (.int .u64 (wq3 x))) :
    Calls Tryd.prog 61 #[.slice (some ⟨b, 0, none⟩) 4 4] w fun e w' => e = .returned (.int .i64 (wLen x)) ∧ w = w' := by
  refine length4_core b _ _ _ _ _ w h0 h1 h2 h3 (wq0_word x) (wq1_word x) (wq2_word x) (wq3_word x) ?_
  rw [← len4_w]
  unfold len4
  by_cases e3 : wq3 x = 0
  · by_cases e2 : wq2 x = 0
    · by_cases e1 : wq1 x = 0
      · by_cases e0 : wq0 x = 0
        · refine .inr (.inr (.inr (.inr ⟨e3, e2, e1, e0, ?_⟩))); rw [if_pos e3, if_pos e2, if_pos e1, if_pos e0]
        · refine .inr (.inr (.inr (.inl ⟨e3, e2, e1, by simpa using e0, Lib.hid ?_⟩))); rw [if_pos e3, if_pos e2, if_pos e1, if_neg e0]
      · refine .inr (.inr (.inl ⟨e3, e2, by simpa using e1, Lib.hid ?_⟩)); rw [if_pos e3, if_pos e2, if_neg e1]
    · refine .inr (.inl ⟨e3, by simpa using e2, Lib.hid ?_⟩); rw [if_pos e3, if_neg e2]
  · refine .inl ⟨by simpa using e3, Lib.hid ?_⟩; rw [if_neg e3]
theorem wlen_any (x : BitVec 256) (w : World) :
    Calls Tryd.prog 53 #[Wv x] w fun e w' => e = .returned (.int .i64 (wLen x)) ∧ Gr w w' := by
  simp only [Wv]
  go_enter Tryd.func53, Tryd.ntmps53
  go_wp2_with (go_at_call 61; refine (length4_any _ x _ (by simp [go_sem]) (by simp [go_sem]) (by simp [go_sem]) (by simp [go_sem])).mono ?_; rintro e w' ⟨rfl, rfl⟩)
  go_ret
  exact ⟨rfl, by (repeat (first | with_reducible assumption | with_reducible exact Below.refl _ _ | with_reducible apply Below.drew | with_reducible apply below_drewN | with_reducible refine Below.alloc ?_ (by first | omega | (simp <;> omega)) _ | with_reducible refine Below.setCell ?_ (by first | omega | (simp <;> omega)) _ | with_reducible refine Below.trans ?_ (Below.mono (by assumption) (by first | omega | (simp <;> omega)))))⟩
theorem wlen_as (x : BitVec 256) (r : Int) (H : Hid (wLen x = r)) (w : World) :
    Calls Tryd.prog 53 #[Wv x] w fun e w' => e = .returned (.int .i64 r) ∧ Gr w w' := by
  obtain rfl := H.out; exact wlen_any x w
theorem raised_core (g : Nat) (eg : ∀ args w, (callFunc g args).run Tryd.prog w = .ok (.enter g args) w) (x z : BitVec 256) (n m : Int) (hg : ∀ w, Calls Tryd.prog g #[Wv x] w fun e w' => e = .returned (.int .i64 n) ∧ Gr w w')
    (h : (n = 0 ∧ z = x ∧ m = 0) ∨ ((n == 0) = false ∧ 0 ≤ n ∧ n ≤ 256 ∧ m = 256 - n ∧ Hid (wShl x (256 - n) = z))) (w : World) :
    Calls Tryd.prog 50 #[Wv x, .int .i64 256, .func (.func g) #[] #[], .func (.func 54) #[] #[]] w fun e w' => e = .returned (.tuple #[Wv z, .int .i64 m]) ∧ Gr w w' := by
  rcases h with ⟨rfl, rfl, rfl⟩ | ⟨e1, b0, b1, rfl, H⟩
  · simp only [Wv] at hg ⊢
    have o2_0 : w.heap.size < w.heap.size + 1 + 1 := by omega
    go_enter Tryd.func50, Tryd.ntmps50
    go_wp2_with (go_at_fn g; refine (hg _).mono ?_; rintro e w1 ⟨rfl, hb1⟩; obtain ⟨hc1, hf1⟩ := bcell hb1; have hs1 := hb1.size; (try simp at hs1); have y0 : w.heap.size < w1.heap.size := (by omega); have y1 : w.heap.size + 1 < w1.heap.size := (by omega))
    simp [bodyPost, results, Tryd.results50, go_sem, *]
    (repeat (first | with_reducible assumption | with_reducible exact Below.refl _ _ | with_reducible apply Below.drew | with_reducible apply below_drewN | with_reducible refine Below.alloc ?_ (by first | omega | (simp <;> omega)) _ | with_reducible refine Below.setCell ?_ (by first | omega | (simp <;> omega)) _ | with_reducible refine Below.trans ?_ (Below.mono (by assumption) (by first | omega | (simp <;> omega)))))
  · simp only [Wv] at hg
    have hl := wleft_as x _ z H
    simp only [Wv] at hl ⊢
    have o2_0 : w.heap.size < w.heap.size + 1 + 1 := by omega
    go_enter Tryd.func50, Tryd.ntmps50
    go_wp2_with (first
      | (go_at_call 54; refine (hl _).mono ?_; rintro e w2 ⟨rfl, hb2⟩; obtain ⟨hc2, hf2⟩ := bcell hb2; have hs2 := hb2.size; (try simp at hs2); have y2 : w.heap.size < w2.heap.size := (by omega); have y3 : w.heap.size + 1 < w2.heap.size := (by omega))
      | (go_at_fn g; refine (hg _).mono ?_; rintro e w1 ⟨rfl, hb1⟩; obtain ⟨hc1, hf1⟩ := bcell hb1; have hs1 := hb1.size; (try simp at hs1); have y0 : w.heap.size < w1.heap.size := (by omega); have y1 : w.heap.size + 1 < w1.heap.size := (by omega)))
    simp [bodyPost, results, Tryd.results50, go_sem, *]
    (repeat (first | with_reducible assumption | with_reducible exact Below.refl _ _ | with_reducible apply Below.drew | with_reducible apply below_drewN | with_reducible refine Below.alloc ?_ (by first | omega | (simp <;> omega)) _ | with_reducible refine Below.setCell ?_ (by first | omega | (simp <;> omega)) _ | with_reducible refine Below.trans ?_ (Below.mono (by assumption) (by first | omega | (simp <;> omega)))))
theorem len_cases (x : BitVec 256) : (wLen x = 0 ∧ wRaise x = x ∧ wRby x = 0) ∨ ((wLen x == 0) = false ∧ 0 ≤ wLen x ∧ wLen x ≤ 256 ∧ wRby x = 256 - wLen x ∧ Hid (wShl x (256 - wLen x) = wRaise x)) := by
  have hb := wLen_bounds x
  by_cases h : wLen x = 0
  · refine .inl ⟨h, ?_, ?_⟩
    · unfold wRaise; rw [if_pos h]
    · unfold wRby; rw [if_pos h]
  · refine .inr ⟨by simpa using h, hb.1, hb.2, ?_, Lib.hid ?_⟩
    · unfold wRby; rw [if_neg h]
    · unfold wRaise; rw [if_neg h]
theorem raise1_any (x : BitVec 256) (w : World) :
    Calls Tryd.prog 52 #[Wv x] w fun e w' => e = .returned (.int .i64 (wLen x)) ∧ Gr w w' := by
  have hl := wlen_any x
  simp only [Wv] at hl ⊢

  go_enter Tryd.func52, Tryd.ntmps52
  go_wp2_with (first | (go_at_call 53; refine (hl _).mono ?_; rintro e w1 ⟨rfl, hb1⟩; (try (with_reducible replace hb1 := undrew hb1)); obtain ⟨hc1, hf1⟩ := bcell hb1; have hs1 := hb1.size; (try simp at hs1); (try have y1_0_0 : w.heap.size < w1.heap.size := (by omega))))
  go_ret
  exact ⟨rfl, by (repeat (first | with_reducible assumption | with_reducible exact Below.refl _ _ | with_reducible apply Below.drew | with_reducible apply below_drewN | with_reducible refine Below.alloc ?_ (by first | omega | (simp <;> omega)) _ | with_reducible refine Below.setCell ?_ (by first | omega | (simp <;> omega)) _ | with_reducible refine Below.trans ?_ (Below.mono (by assumption) (by first | omega | (simp <;> omega)))))⟩
theorem craise_core (x h : BitVec 128) (j z : BitVec 256) (m : Int) (hj : Hid (wJoin x 0#128 = j)) (hh : Hid (wHigh z = h)) (hr : ∀ w, Calls Tryd.prog 50 #[Wv j, .int .i64 256, .func (.func 52) #[] #[], .func (.func 54) #[] #[]] w fun e w' => e = .returned (.tuple #[Wv z, .int .i64 m]) ∧ Gr w w') (w : World) :
    Calls Tryd.prog 22 #[Bv x] w fun e w' => e = .returned (.tuple #[Bv h, .int .i64 m]) ∧ Gr w w' := by
  have k1 := fun w => hj.out ▸ wjoin_0 x w
  have k2 := fun w => hh.out ▸ whigh_any z w
  simp only [Wv, Bv] at k1 k2 hr ⊢
  have o2_0 : w.heap.size < w.heap.size + 1 + 1 := by omega
  go_enter Tryd.func22, Tryd.ntmps22
  go_wp2_with (first
    | (go_at_call 51; refine (k1 _).mono ?_; rintro e w1 ⟨rfl, hb1⟩; (try (with_reducible replace hb1 := undrew hb1)); obtain ⟨hc1, hf1⟩ := bcell hb1; have hs1 := hb1.size; (try simp at hs1); (try have y1_0_0 : w.heap.size < w1.heap.size := (by omega)); (try have y1_1_0 : w.heap.size + 1 < w1.heap.size := (by omega)))
    | (go_at_call 50; refine (hr _).mono ?_; rintro e w2 ⟨rfl, hb2⟩; (try (with_reducible replace hb2 := undrew hb2)); obtain ⟨hc2, hf2⟩ := bcell hb2; have hs2 := hb2.size; (try simp at hs2); (try have y2_0_0 : w.heap.size < w2.heap.size := (by omega)); (try have y2_0_1 : w.heap.size < w2.heap.size + 1 := (by omega)); (try have y2_1_0 : w.heap.size + 1 < w2.heap.size := (by omega)); (try have y2_1_1 : w.heap.size + 1 < w2.heap.size + 1 := (by omega)))
    | (go_at_call 55; refine (k2 _).mono ?_; rintro e w3 ⟨rfl, hb3⟩; (try (with_reducible replace hb3 := undrew hb3)); obtain ⟨hc3, hf3⟩ := bcell hb3; have hs3 := hb3.size; (try simp at hs3); (try have y3_0_0 : w.heap.size < w3.heap.size := (by omega)); (try have y3_1_0 : w.heap.size + 1 < w3.heap.size := (by omega)); (try have y3_2_0 : w2.heap.size < w3.heap.size := (by omega))))
  simp [bodyPost, results, Tryd.results22, go_sem, *]
  (repeat (first | with_reducible assumption | with_reducible exact Below.refl _ _ | with_reducible apply Below.drew | with_reducible apply below_drewN | with_reducible refine Below.alloc ?_ (by first | omega | (simp <;> omega)) _ | with_reducible refine Below.setCell ?_ (by first | omega | (simp <;> omega)) _ | with_reducible refine Below.trans ?_ (Below.mono (by assumption) (by first | omega | (simp <;> omega)))))
theorem craise_as (x z : BitVec 128) (m : Int) (H : Hid (bRaise x = z ∧ bRby x = m)) (w : World) :
    Calls Tryd.prog 22 #[Bv x] w fun e w' => e = .returned (.tuple #[Bv z, .int .i64 m]) ∧ Gr w w' := by
  obtain ⟨rfl, rfl⟩ := H.out
  exact craise_core x _ _ _ _ (Lib.hid rfl) (Lib.hid (raise_high x)) (raise_by x ▸ raised_core 52 (fun _ _ => by kernel_rfl) _ _ _ _ (raise1_any _) (len_cases _)) w
end Hb
end Go.Proofs.YtbkkidgeanogjaaDoor
