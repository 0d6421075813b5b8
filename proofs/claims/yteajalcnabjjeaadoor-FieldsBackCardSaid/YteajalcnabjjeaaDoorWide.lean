/-
  THE WALKS of package wide, and of shift.Lost. Conditions: none.
-/
import Derived.Test.YteajalcnabjjeaaDoorWideShift
import Derived.Test.YteajalcnabjjeaaDoorCountPlain
import Derived.OwnWalk
import Derived.ProofKit
import Derived.ChangeKeysEq
namespace Go.Proofs.YteajalcnabjjeaaDoor
open Go.RowKit
namespace Hb
set_option maxRecDepth 20000
theorem wof_any (x : BitVec 128) (w : World) : Calls Tryd.prog 30 #[Bv x] w fun e w' => e = .returned (Wv (wOf x)) ∧ Gr w w' := by
  obtain ⟨q0, q1, q2, q3⟩ := of_wq x
  simp only [Bv, Wv]
  rw [q0, q1, q2, q3]
  clear q0 q1 q2 q3
  go_enter Tryd.func30, Tryd.ntmps30
  go_wp2
  simp [bodyPost, results, Tryd.results30, go_sem]
  (repeat (first | with_reducible assumption | with_reducible exact Below.refl _ _ | with_reducible apply Below.drew | with_reducible apply below_drewN | with_reducible refine Below.alloc ?_ (by first | omega | (simp <;> omega)) _ | with_reducible refine Below.setCell ?_ (by first | omega | (simp <;> omega)) _ | with_reducible refine Below.trans ?_ (Below.mono (by assumption) (by first | omega | (simp <;> omega)))))
theorem whigh_any (x : BitVec 256) (w : World) : Calls Tryd.prog 34 #[Wv x] w fun e w' => e = .returned (Bv (wHigh x)) ∧ Gr w w' := by
  obtain ⟨q0, q1⟩ := high_hl x
  simp only [Bv, Wv]
  rw [q0, q1]
  clear q0 q1
  go_enter Tryd.func34, Tryd.ntmps34
  go_wp2
  simp [bodyPost, results, Tryd.results34, go_sem]
  (repeat (first | with_reducible assumption | with_reducible exact Below.refl _ _ | with_reducible apply Below.drew | with_reducible apply below_drewN | with_reducible refine Below.alloc ?_ (by first | omega | (simp <;> omega)) _ | with_reducible refine Below.setCell ?_ (by first | omega | (simp <;> omega)) _ | with_reducible refine Below.trans ?_ (Below.mono (by assumption) (by first | omega | (simp <;> omega)))))
theorem wlow_any (x : BitVec 256) (w : World) : Calls Tryd.prog 35 #[Wv x] w fun e w' => e = .returned (Bv (wLow x)) ∧ Gr w w' := by
  obtain ⟨q0, q1⟩ := low_hl' x
  simp only [Bv, Wv]
  rw [q0, q1]
  clear q0 q1
  go_enter Tryd.func35, Tryd.ntmps35
  go_wp2
  simp [bodyPost, results, Tryd.results35, go_sem]
  (repeat (first | with_reducible assumption | with_reducible exact Below.refl _ _ | with_reducible apply Below.drew | with_reducible apply below_drewN | with_reducible refine Below.alloc ?_ (by first | omega | (simp <;> omega)) _ | with_reducible refine Below.setCell ?_ (by first | omega | (simp <;> omega)) _ | with_reducible refine Below.trans ?_ (Below.mono (by assumption) (by first | omega | (simp <;> omega)))))
theorem wjoin_any (x y : BitVec 128) (w : World) : Calls Tryd.prog 54 #[Bv x, Bv y] w fun e w' => e = .returned (Wv (wJoin x y)) ∧ Gr w w' := by
  obtain ⟨q0, q1, q2, q3⟩ := join_wq x y
  simp only [Bv, Wv]
  rw [q0, q1, q2, q3]
  clear q0 q1 q2 q3
  go_enter Tryd.func54, Tryd.ntmps54
  go_wp2
  simp [bodyPost, results, Tryd.results54, go_sem]
  (repeat (first | with_reducible assumption | with_reducible exact Below.refl _ _ | with_reducible apply Below.drew | with_reducible apply below_drewN | with_reducible refine Below.alloc ?_ (by first | omega | (simp <;> omega)) _ | with_reducible refine Below.setCell ?_ (by first | omega | (simp <;> omega)) _ | with_reducible refine Below.trans ?_ (Below.mono (by assumption) (by first | omega | (simp <;> omega)))))
theorem wjoin_0 (x : BitVec 128) (w : World) : Calls Tryd.prog 54 #[Bv x, .agg #[.int .u64 0, .int .u64 0]] w fun e w' => e = .returned (Wv (wJoin x 0#128)) ∧ Gr w w' := wjoin_any x 0#128 w
theorem eqU_run (i : Nat) (x y : Int) (is : List Nat) (xs ys : Array Value) (hx : xs[i]? = some (.int .u64 x)) (hy : ys[i]? = some (.int .u64 y)) (w : World) :
    (Op.eqItems 9999 22 1 xs ys (i :: is)).run Tryd.prog w = if x == y then (Op.eqItems 9999 22 1 xs ys is).run Tryd.prog w else .ok false w := by
  have hp : Tryd.prog.plainKey 22 = true := by kernel_rfl
  simp only [Op.eqItems, Sem.run_bind, Nat.mul_one, run_part_plain w hp hx, run_part_plain w hp hy, run_equalIn_int w 9998 22 .u64 .u64 x y Tryd.underlying22, Result.andThen_ok]
  cases h : (x == y) <;> simp
theorem eq4_run (a0 a1 a2 a3 b0 b1 b2 b3 : Int) (r : Bool) (h : r = (a0 == b0 && a1 == b1 && a2 == b2 && a3 == b3)) (w : World) :
    (Op.equalIn 10000 28 (.agg #[.int .u64 a0, .int .u64 a1, .int .u64 a2, .int .u64 a3]) (.agg #[.int .u64 b0, .int .u64 b1, .int .u64 b2, .int .u64 b3])).run Tryd.prog w = .ok r w := by
  have hc : Tryd.prog.cellsOf 22 = 1 := by kernel_rfl
  have info : (Tryd.prog.info? 22).map (fun i => (i.zero, i.size, i.bytes)) = some (some (.int .u64 0), 1, 8) := by kernel_rfl
  obtain ⟨i, hi, _⟩ := info_parts info
  rw [run_equalIn_array w 9999 _ _ Tryd.underlying28 hi, hc, show List.range 4 = [0, 1, 2, 3] from rfl,
    eqU_run 0 a0 b0 _ _ _ rfl rfl, eqU_run 1 a1 b1 _ _ _ rfl rfl, eqU_run 2 a2 b2 _ _ _ rfl rfl, eqU_run 3 a3 b3 _ _ _ rfl rfl, h]
  cases (a0 == b0) <;> cases (a1 == b1) <;> cases (a2 == b2) <;> cases (a3 == b3) <;> simp [Op.eqItems]
theorem wzero_core (a0 a1 a2 a3 : Int) (r : Bool) (h : r = (a0 == 0 && a1 == 0 && a2 == 0 && a3 == 0)) (w : World) :
    Calls Tryd.prog 25 #[.agg #[.int .u64 a0, .int .u64 a1, .int .u64 a2, .int .u64 a3]] w fun e w' => e = .returned (.bool r) ∧ Gr w w' := by
  have heq := eq4_run a0 a1 a2 a3 0 0 0 0 r h
  clear h
  go_enter Tryd.func25, Tryd.ntmps25
  go_wp2
  go_ret
  exact ⟨rfl, (Below.refl _ _).alloc (Nat.le_refl _) _⟩
theorem wzero_as (x : BitVec 256) (r : Bool) (H : Hid (wZero x = r)) (w : World) :
    Calls Tryd.prog 25 #[Wv x] w fun e w' => e = .returned (.bool r) ∧ Gr w w' :=
  wzero_core _ _ _ _ r (H.out.symm.trans (wzero_wq x)) w
theorem bcmp_as' (x y : BitVec 128) (c : Int) (H : Hid (bCmp x y = c)) (w : World) :
    Calls Tryd.prog 28 #[Bv x, Bv y] w fun e w' => e = .returned (.int .i64 c) ∧ Gr w w' := by
  obtain rfl := H.out; exact cmp_any x y w
set_option maxHeartbeats 2000000 in
theorem wcmp_core (x y : BitVec 256) (xh yh xl yl : BitVec 128) (c d r : Int) (h1 : Hid (wHigh x = xh)) (h2 : Hid (wHigh y = yh)) (h3 : Hid (wLow x = xl)) (h4 : Hid (wLow y = yl)) (h5 : Hid (bCmp xh yh = c)) (h6 : Hid (bCmp xl yl = d))
    (h : ((c == 0) = false ∧ (c != 0) = true ∧ r = c) ∨ (c = 0 ∧ r = d)) (w : World) :
    Calls Tryd.prog 36 #[Wv x, Wv y] w fun e w' => e = .returned (.int .i64 r) ∧ Gr w w' := by
  have k1 := fun w => h1.out ▸ whigh_any x w
  have k2 := fun w => h2.out ▸ whigh_any y w
  have k3 := fun w => h3.out ▸ wlow_any x w
  have k4 := fun w => h4.out ▸ wlow_any y w
  rcases h with ⟨e1, e2, rfl⟩ | ⟨rfl, rfl⟩
  · have o2_0 : w.heap.size < w.heap.size + 1 + 1 := by omega
    go_enter Tryd.func36, Tryd.ntmps36
    go_wp2
    refine wp_region_past (fun z => (z.cell? ⟨w.heap.size, 0, none⟩ = some (.int .u64 (wq0 x)) ∧ z.cell? ⟨w.heap.size, 1, none⟩ = some (.int .u64 (wq1 x)) ∧ z.cell? ⟨w.heap.size, 2, none⟩ = some (.int .u64 (wq2 x)) ∧ z.cell? ⟨w.heap.size, 3, none⟩ = some (.int .u64 (wq3 x))) ∧ (z.cell? ⟨w.heap.size + 1, 0, none⟩ = some (.int .u64 (wq0 y)) ∧ z.cell? ⟨w.heap.size + 1, 1, none⟩ = some (.int .u64 (wq1 y)) ∧ z.cell? ⟨w.heap.size + 1, 2, none⟩ = some (.int .u64 (wq2 y)) ∧ z.cell? ⟨w.heap.size + 1, 3, none⟩ = some (.int .u64 (wq3 y)))) (by kernel_rfl) (by kernel_rfl) (fun wx hbx => ?_) (fun T hne tw hh hx => ?_)
    · obtain ⟨hcx, _⟩ := bcell hbx
      refine ⟨⟨?_, ?_, ?_, ?_⟩, ?_, ?_, ?_, ?_⟩ <;> simp [go_sem, *]
    · have t0 := fun p => (hh p).1.1
      have t1 := fun p => (hh p).1.2.1
      have t2 := fun p => (hh p).1.2.2.1
      have t3 := fun p => (hh p).1.2.2.2
      have s0 := fun p => (hh p).2.1
      have s1 := fun p => (hh p).2.2.1
      have s2 := fun p => (hh p).2.2.2.1
      have s3 := fun p => (hh p).2.2.2.2
      repeat (quiet_step (first
        | (go_at_call_of 34 (wq0 x); exact callsPast hx (k1 _))
        | (go_at_call_of 34 (wq0 y); exact callsPast hx (k2 _))
        | (go_at_call 28; exact callsPast hx (bcmp_as' xh yh r h5 _))))
      refine wpQuiet_nil ?_
      intro w1 hb1
      (try (with_reducible replace hb1 := undrew hb1)); obtain ⟨hc1, hf1⟩ := bcell hb1; have hs1 := hb1.size; (try simp at hs1); (try have y1_0 : w.heap.size < w1.heap.size := (by omega)); (try have y1_1 : w.heap.size + 1 < w1.heap.size := (by omega))
      go_wp2
      go_ret
      exact ⟨rfl, by (repeat (first | with_reducible assumption | with_reducible exact Below.refl _ _ | with_reducible apply Below.drew | with_reducible apply below_drewN | with_reducible refine Below.alloc ?_ (by first | omega | (simp <;> omega)) _ | with_reducible refine Below.setCell ?_ (by first | omega | (simp <;> omega)) _ | with_reducible refine Below.trans ?_ (Below.mono (by assumption) (by first | omega | (simp <;> omega)))))⟩
  · have o2_0 : w.heap.size < w.heap.size + 1 + 1 := by omega
    go_enter Tryd.func36, Tryd.ntmps36
    go_wp2
    refine wp_region_past (fun z => (z.cell? ⟨w.heap.size, 0, none⟩ = some (.int .u64 (wq0 x)) ∧ z.cell? ⟨w.heap.size, 1, none⟩ = some (.int .u64 (wq1 x)) ∧ z.cell? ⟨w.heap.size, 2, none⟩ = some (.int .u64 (wq2 x)) ∧ z.cell? ⟨w.heap.size, 3, none⟩ = some (.int .u64 (wq3 x))) ∧ (z.cell? ⟨w.heap.size + 1, 0, none⟩ = some (.int .u64 (wq0 y)) ∧ z.cell? ⟨w.heap.size + 1, 1, none⟩ = some (.int .u64 (wq1 y)) ∧ z.cell? ⟨w.heap.size + 1, 2, none⟩ = some (.int .u64 (wq2 y)) ∧ z.cell? ⟨w.heap.size + 1, 3, none⟩ = some (.int .u64 (wq3 y)))) (by kernel_rfl) (by kernel_rfl) (fun wx hbx => ?_) (fun T hne tw hh hx => ?_)
    · obtain ⟨hcx, _⟩ := bcell hbx
      refine ⟨⟨?_, ?_, ?_, ?_⟩, ?_, ?_, ?_, ?_⟩ <;> simp [go_sem, *]
    · have t0 := fun p => (hh p).1.1
      have t1 := fun p => (hh p).1.2.1
      have t2 := fun p => (hh p).1.2.2.1
      have t3 := fun p => (hh p).1.2.2.2
      have s0 := fun p => (hh p).2.1
      have s1 := fun p => (hh p).2.2.1
      have s2 := fun p => (hh p).2.2.2.1
      have s3 := fun p => (hh p).2.2.2.2
      repeat (quiet_step (first
        | (go_at_call_of 34 (wq0 x); exact callsPast hx (k1 _))
        | (go_at_call_of 34 (wq0 y); exact callsPast hx (k2 _))
        | (go_at_call 28; exact callsPast hx (bcmp_as' xh yh 0 h5 _))))
      refine wpQuiet_nil ?_
      intro w1 hb1
      (try (with_reducible replace hb1 := undrew hb1)); obtain ⟨hc1, hf1⟩ := bcell hb1; have hs1 := hb1.size; (try simp at hs1); (try have y1_0 : w.heap.size < w1.heap.size := (by omega)); (try have y1_1 : w.heap.size + 1 < w1.heap.size := (by omega))
      clear t0 t1 t2 t3 s0 s1 s2 s3 hh
      go_wp2
      refine wp_region_past (fun z => (z.cell? ⟨w.heap.size, 0, none⟩ = some (.int .u64 (wq0 x)) ∧ z.cell? ⟨w.heap.size, 1, none⟩ = some (.int .u64 (wq1 x)) ∧ z.cell? ⟨w.heap.size, 2, none⟩ = some (.int .u64 (wq2 x)) ∧ z.cell? ⟨w.heap.size, 3, none⟩ = some (.int .u64 (wq3 x))) ∧ (z.cell? ⟨w.heap.size + 1, 0, none⟩ = some (.int .u64 (wq0 y)) ∧ z.cell? ⟨w.heap.size + 1, 1, none⟩ = some (.int .u64 (wq1 y)) ∧ z.cell? ⟨w.heap.size + 1, 2, none⟩ = some (.int .u64 (wq2 y)) ∧ z.cell? ⟨w.heap.size + 1, 3, none⟩ = some (.int .u64 (wq3 y)))) (by kernel_rfl) (by kernel_rfl) (fun wx hbx => ?_) (fun T2 hne2 tw2 hh2 hx2 => ?_)
      · obtain ⟨hcx, _⟩ := bcell hbx
        refine ⟨⟨?_, ?_, ?_, ?_⟩, ?_, ?_, ?_, ?_⟩ <;> simp [go_sem, *]
      · have t0 := fun p => (hh2 p).1.1
        have t1 := fun p => (hh2 p).1.2.1
        have t2 := fun p => (hh2 p).1.2.2.1
        have t3 := fun p => (hh2 p).1.2.2.2
        have s0 := fun p => (hh2 p).2.1
        have s1 := fun p => (hh2 p).2.2.1
        have s2 := fun p => (hh2 p).2.2.2.1
        have s3 := fun p => (hh2 p).2.2.2.2
        repeat (quiet_step (first
          | (go_at_call_of 35 (wq0 x); exact callsPast hx2 (k3 _))
          | (go_at_call_of 35 (wq0 y); exact callsPast hx2 (k4 _))
          | (go_at_call 28; exact callsPast hx2 (bcmp_as' xl yl r h6 _))))
        refine wpQuiet_nil ?_
        intro w2 hb2
        (try (with_reducible replace hb2 := undrew hb2)); obtain ⟨hc2, hf2⟩ := bcell hb2; have hs2 := hb2.size; (try simp at hs2); (try have y2_0 : w.heap.size < w2.heap.size := (by omega)); (try have y2_1 : w.heap.size + 1 < w2.heap.size := (by omega))
        go_wp2
        go_ret
        exact ⟨rfl, by (repeat (first | with_reducible assumption | with_reducible exact Below.refl _ _ | with_reducible apply Below.drew | with_reducible apply below_drewN | with_reducible refine Below.alloc ?_ (by first | omega | (simp <;> omega)) _ | with_reducible refine Below.setCell ?_ (by first | omega | (simp <;> omega)) _ | with_reducible refine Below.trans ?_ (Below.mono (by assumption) (by first | omega | (simp <;> omega)))))⟩
theorem wcmp_as (x y : BitVec 256) (c : Int) (H : Hid (wCmp x y = c)) (w : World) :
    Calls Tryd.prog 36 #[Wv x, Wv y] w fun e w' => e = .returned (.int .i64 c) ∧ Gr w w' := by
  refine wcmp_core x y _ _ _ _ _ _ c (Lib.hid rfl) (Lib.hid rfl) (Lib.hid rfl) (Lib.hid rfl) (Lib.hid rfl) (Lib.hid rfl) ?_ w
  have e := wcmp_half x y
  rw [H.out] at e
  unfold fst0 at e
  by_cases h0 : bCmp (wHigh x) (wHigh y) = 0
  · rw [if_pos h0] at e; exact .inr ⟨h0, e⟩
  · rw [if_neg h0] at e; exact .inl ⟨by simpa using h0, by simpa using h0, e⟩
set_option maxHeartbeats 2000000 in
theorem lost_core (x0 x1 x2 x3 y0 y1 y2 y3 z0 z1 z2 z3 n : Int) (r : Bool)
    (k1 : ∀ w, Calls Tryd.prog 27 #[.agg #[.int .u64 x0, .int .u64 x1, .int .u64 x2, .int .u64 x3], .int .i64 n] w fun e w' => e = .returned (.agg #[.int .u64 y0, .int .u64 y1, .int .u64 y2, .int .u64 y3]) ∧ Gr w w')
    (k2 : ∀ w, Calls Tryd.prog 37 #[.agg #[.int .u64 y0, .int .u64 y1, .int .u64 y2, .int .u64 y3], .int .i64 n] w fun e w' => e = .returned (.agg #[.int .u64 z0, .int .u64 z1, .int .u64 z2, .int .u64 z3]) ∧ Gr w w')
    (h : (!r) = (z0 == x0 && z1 == x1 && z2 == x2 && z3 == x3)) (w : World) :
    Calls Tryd.prog 26 #[.agg #[.int .u64 x0, .int .u64 x1, .int .u64 x2, .int .u64 x3], .int .i64 n] w fun e w' => e = .returned (.bool r) ∧ Gr w w' := by
  have heq := eq4_run z0 z1 z2 z3 x0 x1 x2 x3 (!r) h
  clear h

  go_enter Tryd.func26, Tryd.ntmps26
  go_wp2
  refine wp_region_past (fun y => y.cell? ⟨w.heap.size, 0, none⟩ = some (.int .u64 x0) ∧ y.cell? ⟨w.heap.size, 1, none⟩ = some (.int .u64 x1) ∧ y.cell? ⟨w.heap.size, 2, none⟩ = some (.int .u64 x2) ∧ y.cell? ⟨w.heap.size, 3, none⟩ = some (.int .u64 x3)) (by kernel_rfl) (by kernel_rfl) (fun wx hbx => ?_) (fun T hne tw hh hx => ?_)
  · obtain ⟨hcx, _⟩ := bcell hbx
    refine ⟨?_, ?_, ?_, ?_⟩ <;> simp [go_sem, *]
  · have t0 := fun p => (hh p).1
    have t1 := fun p => (hh p).2.1
    have t2 := fun p => (hh p).2.2.1
    have t3 := fun p => (hh p).2.2.2
    repeat (quiet_step (first
      | (go_at_call 27; exact callsPast hx (k1 _))
      | (go_at_call 37; exact callsPast hx (k2 _))))
    refine wpQuiet_nil ?_
    intro w1 hb1
    (try (with_reducible replace hb1 := undrew hb1)); obtain ⟨hc1, hf1⟩ := bcell hb1; have hs1 := hb1.size; (try simp at hs1); (try have y1_0 : w.heap.size < w1.heap.size := (by omega))
    go_wp2
    go_ret
    exact ⟨rfl, by (repeat (first | with_reducible assumption | with_reducible exact Below.refl _ _ | with_reducible apply Below.drew | with_reducible apply below_drewN | with_reducible refine Below.alloc ?_ (by first | omega | (simp <;> omega)) _ | with_reducible refine Below.setCell ?_ (by first | omega | (simp <;> omega)) _ | with_reducible refine Below.trans ?_ (Below.mono (by assumption) (by first | omega | (simp <;> omega)))))⟩
theorem lost_as (x : BitVec 256) (n : Int) (r : Bool) (H : Hid (wLost x n = r)) (w : World) :
    Calls Tryd.prog 26 #[Wv x, .int .i64 n] w fun e w' => e = .returned (.bool r) ∧ Gr w w' := by
  refine lost_core _ _ _ _ _ _ _ _ _ _ _ _ n r (wright_as x n _ (Lib.hid rfl)) (wleft_as _ n _ (Lib.hid rfl)) ?_ w
  rw [← eqW_iff, ← H.out]
  unfold wLost; rw [Bool.not_not]
end Hb
end Go.Proofs.YteajalcnabjjeaaDoor
