/-
  THE WALKS of package wide, and of shift.Lost. Conditions: none.
-/
import Derived.Test.YtbkkidgeanogjaaDoorWideShift
import Derived.Test.YtbkkidgeanogjaaDoorCountPlain
import Derived.OwnWalk
import Derived.ProofKit
import Derived.ChangeKeysEq
namespace Go.Proofs.YtbkkidgeanogjaaDoor
open Go.RowKit
namespace Hb
set_option maxRecDepth 20000
theorem wof_any (x : BitVec 128) (w : World) : Calls Tryd.prog 40 #[Bv x] w fun e w' => e = .returned (Wv (wOf x)) ∧ Gr w w' := by
  obtain ⟨q0, q1, q2, q3⟩ := of_wq x
  simp only [Bv, Wv]
  rw [q0, q1, q2, q3]
  clear q0 q1 q2 q3
  go_enter Tryd.func40, Tryd.ntmps40
  go_wp2
  simp [bodyPost, results, Tryd.results40, go_sem]
  (repeat (first | with_reducible assumption | with_reducible exact Below.refl _ _ | with_reducible apply Below.drew | with_reducible apply below_drewN | with_reducible refine Below.alloc ?_ (by first | omega | (simp <;> omega)) _ | with_reducible refine Below.setCell ?_ (by first | omega | (simp <;> omega)) _ | with_reducible refine Below.trans ?_ (Below.mono (by assumption) (by first | omega | (simp <;> omega)))))
theorem whigh_any (x : BitVec 256) (w : World) : Calls Tryd.prog 55 #[Wv x] w fun e w' => e = .returned (Bv (wHigh x)) ∧ Gr w w' := by
  obtain ⟨q0, q1⟩ := high_hl x
  simp only [Bv, Wv]
  rw [q0, q1]
  clear q0 q1
  go_enter Tryd.func55, Tryd.ntmps55
  go_wp2
  simp [bodyPost, results, Tryd.results55, go_sem]
  (repeat (first | with_reducible assumption | with_reducible exact Below.refl _ _ | with_reducible apply Below.drew | with_reducible apply below_drewN | with_reducible refine Below.alloc ?_ (by first | omega | (simp <;> omega)) _ | with_reducible refine Below.setCell ?_ (by first | omega | (simp <;> omega)) _ | with_reducible refine Below.trans ?_ (Below.mono (by assumption) (by first | omega | (simp <;> omega)))))
theorem wjoin_any (x y : BitVec 128) (w : World) : Calls Tryd.prog 51 #[Bv x, Bv y] w fun e w' => e = .returned (Wv (wJoin x y)) ∧ Gr w w' := by
  obtain ⟨q0, q1, q2, q3⟩ := join_wq x y
  simp only [Bv, Wv]
  rw [q0, q1, q2, q3]
  clear q0 q1 q2 q3
  go_enter Tryd.func51, Tryd.ntmps51
  go_wp2
  simp [bodyPost, results, Tryd.results51, go_sem]
  (repeat (first | with_reducible assumption | with_reducible exact Below.refl _ _ | with_reducible apply Below.drew | with_reducible apply below_drewN | with_reducible refine Below.alloc ?_ (by first | omega | (simp <;> omega)) _ | with_reducible refine Below.setCell ?_ (by first | omega | (simp <;> omega)) _ | with_reducible refine Below.trans ?_ (Below.mono (by assumption) (by first | omega | (simp <;> omega)))))
theorem wjoin_0 (x : BitVec 128) (w : World) : Calls Tryd.prog 51 #[Bv x, .agg #[.int .u64 0, .int .u64 0]] w fun e w' => e = .returned (Wv (wJoin x 0#128)) ∧ Gr w w' := wjoin_any x 0#128 w
theorem eqU_run (i : Nat) (x y : Int) (is : List Nat) (xs ys : Array Value) (hx : xs[i]? = some (.int .u64 x)) (hy : ys[i]? = some (.int .u64 y)) (w : World) :
    (Op.eqItems 9999 23 1 xs ys (i :: is)).run Tryd.prog w = if x == y then (Op.eqItems 9999 23 1 xs ys is).run Tryd.prog w else .ok false w := by
  have hp : Tryd.prog.plainKey 23 = true := by kernel_rfl
  simp only [Op.eqItems, Sem.run_bind, Nat.mul_one, run_part_plain w hp hx, run_part_plain w hp hy, run_equalIn_int w 9998 23 .u64 .u64 x y Tryd.underlying23, Result.andThen_ok]
  cases h : (x == y) <;> simp
theorem eq4_run (a0 a1 a2 a3 b0 b1 b2 b3 : Int) (r : Bool) (h : r = (a0 == b0 && a1 == b1 && a2 == b2 && a3 == b3)) (w : World) :
    (Op.equalIn 10000 73 (.agg #[.int .u64 a0, .int .u64 a1, .int .u64 a2, .int .u64 a3]) (.agg #[.int .u64 b0, .int .u64 b1, .int .u64 b2, .int .u64 b3])).run Tryd.prog w = .ok r w := by
  have hc : Tryd.prog.cellsOf 23 = 1 := by kernel_rfl
  have info : (Tryd.prog.info? 23).map (fun i => (i.zero, i.size, i.bytes)) = some (some (.int .u64 0), 1, 8) := by kernel_rfl
  obtain ⟨i, hi, _⟩ := info_parts info
  rw [run_equalIn_array w 9999 _ _ Tryd.underlying73 hi, hc, show List.range 4 = [0, 1, 2, 3] from rfl,
    eqU_run 0 a0 b0 _ _ _ rfl rfl, eqU_run 1 a1 b1 _ _ _ rfl rfl, eqU_run 2 a2 b2 _ _ _ rfl rfl, eqU_run 3 a3 b3 _ _ _ rfl rfl, h]
  cases (a0 == b0) <;> cases (a1 == b1) <;> cases (a2 == b2) <;> cases (a3 == b3) <;> simp [Op.eqItems]
set_option maxHeartbeats 2000000 in
theorem lost_core (x0 x1 x2 x3 y0 y1 y2 y3 z0 z1 z2 z3 n : Int) (r : Bool)
    (k1 : ∀ w, Calls Tryd.prog 59 #[.agg #[.int .u64 x0, .int .u64 x1, .int .u64 x2, .int .u64 x3], .int .i64 n] w fun e w' => e = .returned (.agg #[.int .u64 y0, .int .u64 y1, .int .u64 y2, .int .u64 y3]) ∧ Gr w w')
    (k2 : ∀ w, Calls Tryd.prog 54 #[.agg #[.int .u64 y0, .int .u64 y1, .int .u64 y2, .int .u64 y3], .int .i64 n] w fun e w' => e = .returned (.agg #[.int .u64 z0, .int .u64 z1, .int .u64 z2, .int .u64 z3]) ∧ Gr w w')
    (h : (!r) = (z0 == x0 && z1 == x1 && z2 == x2 && z3 == x3)) (w : World) :
    Calls Tryd.prog 39 #[.agg #[.int .u64 x0, .int .u64 x1, .int .u64 x2, .int .u64 x3], .int .i64 n] w fun e w' => e = .returned (.bool r) ∧ Gr w w' := by
  have heq := eq4_run z0 z1 z2 z3 x0 x1 x2 x3 (!r) h
  clear h

  go_enter Tryd.func39, Tryd.ntmps39
  go_wp2
  refine wp_region_past (fun y => y.cell? ⟨w.heap.size, 0, none⟩ = some (.int .u64 x0) ∧ y.cell? ⟨w.heap.size, 1, none⟩ = some (.int .u64 x1) ∧ y.cell? ⟨w.heap.size, 2, none⟩ = some (.int .u64 x2) ∧ y.cell? ⟨w.heap.size, 3, none⟩ = some (.int .u64 x3)) (by kernel_rfl) (by kernel_rfl) (fun wx hbx => ?_) (fun T hne tw hh hx => ?_)
  · obtain ⟨hcx, _⟩ := bcell hbx
    refine ⟨?_, ?_, ?_, ?_⟩ <;> simp [go_sem, *]
  · have t0 := fun p => (hh p).1
    have t1 := fun p => (hh p).2.1
    have t2 := fun p => (hh p).2.2.1
    have t3 := fun p => (hh p).2.2.2
    repeat (quiet_step (first
      | (go_at_call 59; exact callsPast hx (k1 _))
      | (go_at_call 54; exact callsPast hx (k2 _))))
    refine wpQuiet_nil ?_
    intro w1 hb1
    (try (with_reducible replace hb1 := undrew hb1)); obtain ⟨hc1, hf1⟩ := bcell hb1; have hs1 := hb1.size; (try simp at hs1); (try have y1_0 : w.heap.size < w1.heap.size := (by omega))
    go_wp2
    go_ret
    exact ⟨rfl, by (repeat (first | with_reducible assumption | with_reducible exact Below.refl _ _ | with_reducible apply Below.drew | with_reducible apply below_drewN | with_reducible refine Below.alloc ?_ (by first | omega | (simp <;> omega)) _ | with_reducible refine Below.setCell ?_ (by first | omega | (simp <;> omega)) _ | with_reducible refine Below.trans ?_ (Below.mono (by assumption) (by first | omega | (simp <;> omega)))))⟩
theorem lost_as (x : BitVec 256) (n : Int) (r : Bool) (H : Hid (wLost x n = r)) (w : World) :
    Calls Tryd.prog 39 #[Wv x, .int .i64 n] w fun e w' => e = .returned (.bool r) ∧ Gr w w' := by
  refine lost_core _ _ _ _ _ _ _ _ _ _ _ _ n r (wright_as x n _ (Lib.hid rfl)) (wleft_as _ n _ (Lib.hid rfl)) ?_ w
  rw [← eqW_iff, ← H.out]
  unfold wLost; rw [Bool.not_not]
end Hb
end Go.Proofs.YtbkkidgeanogjaaDoor
