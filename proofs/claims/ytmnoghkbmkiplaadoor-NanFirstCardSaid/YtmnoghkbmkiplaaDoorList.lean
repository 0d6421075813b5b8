/-
  LISTS OF NUMBERS OF 128 BITS IN MEMORY: slices.IndexFunc, slices.ContainsFunc, class.Any. Conditions: the slice reads as the list; the predicate answers as it is said to.
-/
import Derived.Test.YtmnoghkbmkiplaaDoorListPlain
import Derived.Test.YtmnoghkbmkiplaaDoorClass
import Derived.Deep.LoopGhost
import Derived.Shelf.Abstract
namespace Go.Proofs.YtmnoghkbmkiplaaDoor
open Go.RowKit
namespace Hb
set_option maxRecDepth 20000
/-- A slice of numbers of 128 bits. -/
def Lst (w : World) (s : Option Addr) (n : Nat) (a : Nat → BitVec 128) : Prop :=
  n = 0 ∨ ∃ b off : Nat, s = some ⟨b, off, none⟩ ∧ b < w.heap.size ∧ ∀ i, i < n → w.cell? ⟨b, off + i * 2, none⟩ = some (.int .u64 (hiB (a i))) ∧ w.cell? ⟨b, off + i * 2 + 1, none⟩ = some (.int .u64 (loB (a i)))
theorem Lst.below {w w' : World} {s : Option Addr} {n : Nat} {a : Nat → BitVec 128} (h : Lst w s n a) (hb : Below w.heap.size w w') : Lst w' s n a := by
  rcases h with h | ⟨b, off, rfl, h1, h2⟩
  · exact .inl h
  · exact .inr ⟨b, off, rfl, Nat.lt_of_lt_of_le h1 hb.size, fun i hi => ⟨(hb.cell (p := ⟨b, _, none⟩) h1).trans (h2 i hi).1, (hb.cell (p := ⟨b, _, none⟩) h1).trans (h2 i hi).2⟩⟩
/-- What a predicate must do: answer, and leave what stood. -/
def PredB (g : Nat) (lb : Array Value) (p : BitVec 128 → Bool) (w : World) : Prop :=
  ∀ (W : World) (x : BitVec 128), Below w.heap.size w W → Calls Tryd.prog g (#[Bv x] ++ lb) W fun e w' => e = .returned (.bool (p x)) ∧ Below w.heap.size w w'
set_option maxHeartbeats 2000000 in
theorem index_some (g : Nat) (lb : Array Value) (eg : ∀ args w, (callFunc g args).run Tryd.prog w = .ok (.enter g args) w) (p : BitVec 128 → Bool) (b off n c : Nat) (a : Nat → BitVec 128) (w : World)
    (hp : PredB g lb p w) (hbig : n ≤ 9223372036854775807) (hb : b < w.heap.size)
    (hc : ∀ i, i < n → w.cell? ⟨b, off + i * 2, none⟩ = some (.int .u64 (hiB (a i))) ∧ w.cell? ⟨b, off + i * 2 + 1, none⟩ = some (.int .u64 (loB (a i)))) :
    Calls Tryd.prog 10 #[.slice (some ⟨b, off, none⟩) n c, .func (.func g) #[] lb] w fun e w' => e = .returned (.int .i64 (idxF p a n)) ∧ Below w.heap.size w w' := by
  have hrow : ∀ (W : World), Below w.heap.size w W → ∀ j, j < n → W.cell? ⟨b, off + j * 2, none⟩ = some (.int .u64 (hiB (a j))) ∧ W.cell? ⟨b, off + j * 2 + 1, none⟩ = some (.int .u64 (loB (a j))) := fun W hW j hj =>
    ⟨(hW.cell (p := ⟨b, _, none⟩) hb).trans (hc j hj).1, (hW.cell (p := ⟨b, _, none⟩) hb).trans (hc j hj).2⟩
  clear hc
  go_enter Tryd.func10, Tryd.ntmps10
  go_wp2
  go_loopg [5, 8] n (fun gg _ s8 wr => ∃ kk : Nat, kk ≤ n ∧ n - kk ≤ gg ∧ s8 = .int .i64 kk ∧ Aside (Below w.heap.size w wr) ∧ Aside (∀ j, j < kk → p (a j) = false))
  case atStart => exact ⟨0, Nat.zero_le _, by omega, rfl, Below.refl _ w, fun j hj => absurd hj (Nat.not_lt_zero _)⟩
  case round =>
    obtain ⟨kk, hkk, hg, rfl, BW, A⟩ := hrel
    by_cases hlt : kk < n
    · have hltz : (kk : Int) < (n : Int) := by omega
      obtain ⟨l1, l2⟩ := hrow wr BW.out kk (by omega)
      have hcall := hp wr (a kk) BW.out
      clear hrow hp
      generalize hy : a kk = y at l1 l2 hcall
      have B : Aside (a kk = y) := hy
      clear hy
      cases hq : p y with
      | true =>
        rw [hq] at hcall
        go_wp2_with (go_at_fn g; refine hcall.mono ?_; rintro e w' ⟨rfl, hb'⟩)
        go_ret
        refine ⟨?_, hb'⟩
        rw [idx_hit p a n kk hlt (by rw [B.out]; exact hq) A.out]
        rfl
      | false =>
        rw [hq] at hcall
        go_wp2_with (go_at_fn g; refine hcall.mono ?_; rintro e w' ⟨rfl, hb'⟩)
        go_roundg (n - (kk + 1))
        case measure => omega
        case rel =>
          refine ⟨kk + 1, by omega, by omega, by go_num, hb', (show Aside _ from fun j hj => ?_)⟩
          by_cases e : j = kk
          · subst e
            rw [B.out]; exact hq
          · exact A.out j (by omega)
    · have hltz : ¬ (kk : Int) < (n : Int) := by omega
      have : kk = n := by omega
      subst this
      go_wp2
      go_ret
      refine ⟨?_, BW.out⟩
      rw [idx_miss p a kk A.out]
      rfl
theorem index_none (s : Option Addr) (c : Nat) (g : Nat) (lb : Array Value) (w : World) :
    Calls Tryd.prog 10 #[.slice s 0 c, .func (.func g) #[] lb] w fun e w' => e = .returned (.int .i64 (-1)) ∧ Below w.heap.size w w' := by
  go_enter Tryd.func10, Tryd.ntmps10
  go_wp2
  refine wp_loop_rounds 1 ?_
  rw [rounds_succ]
  go_wp2
  go_ret
  exact ⟨rfl, Below.refl _ _⟩
theorem index_any (g : Nat) (lb : Array Value) (eg : ∀ args w, (callFunc g args).run Tryd.prog w = .ok (.enter g args) w) (p : BitVec 128 → Bool) (s : Option Addr) (n c : Nat) (a : Nat → BitVec 128) (w : World)
    (hp : PredB g lb p w) (hbig : n ≤ 9223372036854775807) (hl : Lst w s n a) :
    Calls Tryd.prog 10 #[.slice s n c, .func (.func g) #[] lb] w fun e w' => e = .returned (.int .i64 (idxF p a n)) ∧ Below w.heap.size w w' := by
  rcases hl with rfl | ⟨b, off, rfl, h1, h2⟩
  · exact index_none s c g lb w
  · exact index_some g lb eg p b off n c a w hp hbig h1 h2
theorem contains_any (g : Nat) (lb : Array Value) (eg : ∀ args w, (callFunc g args).run Tryd.prog w = .ok (.enter g args) w) (p : BitVec 128 → Bool) (s : Option Addr) (n c : Nat) (a : Nat → BitVec 128) (w : World)
    (hp : PredB g lb p w) (hbig : n ≤ 9223372036854775807) (hl : Lst w s n a) :
    Calls Tryd.prog 23 #[.slice s n c, .func (.func g) #[] lb] w fun e w' => e = .returned (.bool (anyF p a n)) ∧ Below w.heap.size w w' := by
  have hx := idx_lt p a n
  rw [any_idx]
  have hcon := index_any g lb eg p s n c a w hp hbig hl
  generalize idxF p a n = r at hcon hx ⊢
  clear hp hl
  go_enter Tryd.func23, Tryd.ntmps23
  go_wp2_with (go_at_call 10; refine hcon.mono ?_; rintro e w' ⟨rfl, hb'⟩)
  go_ret
  exact ⟨rfl, hb'⟩
theorem any1_pred (g : Nat) (eg : ∀ args w, (callFunc g args).run Tryd.prog w = .ok (.enter g args) w) (f : Int) (p : BitVec 128 → Bool) (B1 B2 : Nat) (w : World)
    (hp : ∀ (W : World) (x : BitVec 128), Below w.heap.size w W → Calls Tryd.prog g #[.int .u8 f, Bv x] W fun e w' => e = .returned (.bool (p x)) ∧ Below W.heap.size W w')
    (hb1 : B1 < w.heap.size) (hb2 : B2 < w.heap.size) (h1 : w.cell? ⟨B1, 0, none⟩ = some (.func (.func g) #[] #[])) (h2 : w.cell? ⟨B2, 0, none⟩ = some (.int .u8 f)) :
    PredB 24 #[.pointer (some ⟨B1, 0, none⟩), .pointer (some ⟨B2, 0, none⟩)] p w := fun W x hb => by
  have c1 := (hb.cell (p := ⟨B1, 0, none⟩) hb1).trans h1
  have c2 := (hb.cell (p := ⟨B2, 0, none⟩) hb2).trans h2
  have l1 : B1 < W.heap.size := Nat.lt_of_lt_of_le hb1 hb.size
  have l2 : B2 < W.heap.size := Nat.lt_of_lt_of_le hb2 hb.size
  have hbs := hb.size
  have n1 : ¬ B1 = W.heap.size := by omega
  have n2 : ¬ B2 = W.heap.size := by omega
  show Calls Tryd.prog 24 #[Bv x, .pointer (some ⟨B1, 0, none⟩), .pointer (some ⟨B2, 0, none⟩)] W _
  have hcall := fun W' hW' => hp W' x hW'
  clear hp h1 h2
  simp only [Bv]
  simp only [Bv] at hcall
  go_enter Tryd.func24, Tryd.ntmps24
  go_wp2_with (go_at_fn g; refine (hcall _ (by (repeat (first | exact Below.refl _ _ | assumption | apply Below.drew | apply below_drewN | refine Below.alloc ?_ (by first | omega | (simp <;> omega)) _ | refine Below.setCell ?_ (by first | omega | (simp <;> omega)) _ | refine Below.trans ?_ (Below.mono (by assumption) (by first | omega | (simp <;> omega))))))).mono ?_; rintro e w' ⟨rfl, hb'⟩)
  go_ret
  exact ⟨rfl, by (repeat (first | exact Below.refl _ _ | assumption | apply Below.drew | apply below_drewN | refine Below.alloc ?_ (by first | omega | (simp <;> omega)) _ | refine Below.setCell ?_ (by first | omega | (simp <;> omega)) _ | refine Below.trans ?_ (Below.mono (by assumption) (by first | omega | (simp <;> omega)))))⟩
theorem any_core (g : Nat) (eg : ∀ args w, (callFunc g args).run Tryd.prog w = .ok (.enter g args) w) (f : Int) (p : BitVec 128 → Bool) (s : Option Addr) (n c : Nat) (a : Nat → BitVec 128) (r : Bool) (H : Hid (anyF p a n = r)) (w : World)
    (hp : ∀ (W : World) (x : BitVec 128), Below w.heap.size w W → Calls Tryd.prog g #[.int .u8 f, Bv x] W fun e w' => e = .returned (.bool (p x)) ∧ Below W.heap.size W w')
    (hbig : n ≤ 9223372036854775807) (hl : Lst w s n a) :
    Calls Tryd.prog 13 #[.int .u8 f, .func (.func g) #[] #[], .slice s n c] w fun e w' => e = .returned (.bool r) ∧ Gr w w' := by
  have e1 : ∀ args w, (callFunc 24 args).run Tryd.prog w = .ok (.enter 24 args) w := Go.Proofs.enters_of Tryd.func24 (by kernel_rfl) rfl
  have hmf : ∀ (fn : Fn) (first cap : Array Value) (w : World), (Instr.makeFunc fn first cap).run Tryd.prog w = .ok (.func fn first cap) w := fun _ _ _ _ => rfl
  have hnf : ∀ w, (binOp .neq 27 (.func (.func g) #[] #[]) .nilFunc).run Tryd.prog w = .ok (.bool true) w := fun _ => by kernel_rfl
  have hG : Below w.heap.size w ((w.alloc (.cells #[.int .u8 f] 22)).alloc (.cells #[.func (.func g) #[] #[]] 27)) :=
    ((Below.refl _ _).alloc (Nat.le_refl _) _).alloc (by simp) _
  have hcon := contains_any 24 #[.pointer (some ⟨w.heap.size + 1, 0, none⟩), .pointer (some ⟨w.heap.size, 0, none⟩)] e1 p s n c a _
    (any1_pred g eg f p (w.heap.size + 1) w.heap.size _ (fun W x hb => hp W x (hG.trans (hb.mono (by simp; omega)))) (by simp) (by simp; omega) (by simp [go_sem]) (by simp [go_sem])) hbig (hl.below hG)
  rw [H.out] at hcon
  clear hp hl
  go_enter Tryd.func13, Tryd.ntmps13
  go_wp2_with (go_at_call 23; refine hcon.mono ?_; rintro e w' ⟨rfl, hb'⟩)
  go_ret
  exact ⟨rfl, hG.trans (hb'.mono (by simp; omega))⟩
end Hb
end Go.Proofs.YtmnoghkbmkiplaaDoor
