/-
  NATURAL NUMBERS IN MEMORY, AND THE WALKS OF Trim, digit, Of, Big, Bits OF THE REFERENCE. Conditions: the slice reads as the number.
-/
import Derived.Test.YtbelighbkjadkaaDoorWord
import Derived.Test.YtbelighbkjadkaaDoorRefPlain
import Derived.Test.YtbelighbkjadkaaDoorPast
import Derived.Deep.LoopGhost
import Derived.Laws.AppendOwn
import Derived.Laws.AppendOwnNone
import Derived.OwnWalk
import Derived.ProofKit
import Derived.IntWalk
import Derived.Lib.Hide
namespace Go.Proofs.YtbelighbkjadkaaDoor
open Go.RowKit
namespace Hb
set_option maxRecDepth 20000
theorem infoU : (Tryd.prog.info? 91).map (fun i => (i.zero, i.size, i.bytes)) = some (some (.int .u32 0), 1, 4) := by kernel_rfl
/-- A slice of L digits that reads as m. -/
def Row (w : World) (s : Option Addr) (L c m : Nat) : Prop :=
  m < B32 L ∧ L ≤ c ∧ L ≤ 1000 ∧ (L = 0 ∨ ∃ b : Nat, s = some ⟨b, 0, none⟩ ∧ b < w.heap.size ∧ ∀ i, i < L → w.cell? ⟨b, i, none⟩ = some (.int .u32 (dig m i)))
/-- A slice that is the number n. -/
def IsN (w : World) (v : Value) (n : Nat) : Prop := ∃ s c, v = .slice s (nlen n) c ∧ Row w s (nlen n) c n
/-- A call hands back the number r, and leaves what stood. -/
def RetN (r : Nat) (w : World) (e : Ending) (w' : World) : Prop := ∃ v, e = .returned v ∧ IsN w' v r ∧ Below w.heap.size w w'
theorem nlen_zero : nlen 0 = 0 := rfl
theorem isN_nil (w : World) : IsN w (.slice none 0 0) 0 := ⟨none, 0, rfl, by rw [nlen_zero, B32_zero]; decide, Nat.le_refl _, by rw [nlen_zero]; decide, .inl rfl⟩
theorem Row.below {w w' : World} {s : Option Addr} {L c m : Nat} (h : Row w s L c m) (hb : Below w.heap.size w w') : Row w' s L c m := by
  obtain ⟨h1, h2, h3, h4⟩ := h
  refine ⟨h1, h2, h3, ?_⟩
  rcases h4 with h4 | ⟨b, rfl, hl, hc⟩
  · exact .inl h4
  · exact .inr ⟨b, rfl, Nat.lt_of_lt_of_le hl hb.size, fun i hi => (hb.cell (p := ⟨b, i, none⟩) hl).trans (hc i hi)⟩
theorem IsN.below {w w' : World} {v : Value} {n : Nat} (h : IsN w v n) (hb : Below w.heap.size w w') : IsN w' v n := by
  obtain ⟨s, c, rfl, hr⟩ := h
  exact ⟨s, c, rfl, hr.below hb⟩
theorem IsN.len {w : World} {v : Value} {n : Nat} (h : IsN w v n) : nlen n ≤ 1000 := by obtain ⟨s, c, _, h⟩ := h; exact h.2.2.1
theorem Row.cut {w : World} {s : Option Addr} {L c m : Nat} (h : Row w s L c m) : IsN w (.slice s (nlen m) c) m := by
  obtain ⟨h1, h2, h3, h4⟩ := h
  have h5 := (nlen_le m L).2 h1
  refine ⟨s, c, rfl, nlen_lt m, by omega, by omega, ?_⟩
  rcases h4 with rfl | ⟨b, rfl, hl, hc⟩
  · exact .inl (by omega)
  · exact .inr ⟨b, rfl, hl, fun i hi => hc i (by omega)⟩
theorem ret_eq {v v' : Value} (h : v = v') : Ending.returned v = Ending.returned v' := by rw [h]
theorem trim_any (s : Option Addr) (L c m : Nat) (w : World) (h : Row w s L c m) :
    Calls Tryd.prog 86 #[.slice s L c] w fun e w' => e = .returned (.slice s (nlen m) c) ∧ w = w' := by
  obtain ⟨h1, h2, h3, h4⟩ := h
  have h5 := (nlen_le m L).2 h1
  rcases h4 with rfl | ⟨b, rfl, hb, hc⟩
  · have h6 : nlen m = 0 := by omega
    rw [h6]
    clear h1 h2 h3 h5 h6
    go_enter Tryd.func86, Tryd.ntmps86
    go_wp2
    refine wp_loop_rounds 1 ?_
    rw [rounds_succ]
    go_wp2
    go_ret
    exact ⟨rfl, rfl⟩
  · have HC := Lib.hid hc
    clear hc h1
    go_enter Tryd.func86, Tryd.ntmps86
    go_wp2
    go_loop [0] (fun t => ∃ k : Nat, nlen m ≤ k ∧ k ≤ L ∧ t = .slice (some ⟨b, 0, none⟩) k c) (fun t => match t with | .slice _ n _ => n | _ => 0)
    case atStart => exact ⟨L, h5, Nat.le_refl _, rfl⟩
    case round =>
      obtain ⟨k, hk1, hk2, rfl⟩ := hrel
      by_cases hk : k = 0
      · subst hk
        have h6 : nlen m = 0 := by omega
        have H6 := Lib.hid h6
        clear h6 h5 hk1
        go_wp2
        go_ret
        exact ⟨by rw [H6.out]; rfl, rfl⟩
      · obtain ⟨j, rfl⟩ : ∃ j, k = j + 1 := ⟨k - 1, by omega⟩
        have hcell := HC.out j (by omega)
        by_cases he : nlen m = j + 1
        · have hd := dig_top he
          have hz : ((dig m j : Int) == 0) = false := by simp; omega
          have HE := Lib.hid he
          clear he hd hk1 h5
          go_wp2
          go_ret
          exact ⟨by rw [HE.out]; rfl, rfl⟩
        · have hd : dig m j = 0 := dig_above (by omega)
          rw [hd] at hcell
          clear hd
          go_wp2
          go_round
          case rel => exact ⟨j, by omega, by omega, rfl⟩
          case measure => simp
theorem digit_any (v : Value) (n i : Nat) (w : World) (h : IsN w v n) (hi : i < 4611686018427387904) :
    Calls Tryd.prog 80 #[v, .int .i64 i] w fun e w' => e = .returned (.int .u32 (dig n i)) ∧ w = w' := by
  obtain ⟨s, c, rfl, h1, h2, h3, h4⟩ := h
  by_cases hlt : i < nlen n
  · rcases h4 with h4 | ⟨b, rfl, hb, hc⟩
    · omega
    · have hcell := hc i hlt
      clear hc h1
      go_enter Tryd.func80, Tryd.ntmps80
      go_wp2
      go_ret
      exact ⟨rfl, rfl⟩
  · have hd : dig n i = 0 := dig_above (by omega)
    rw [hd]
    clear hd h1 h4
    go_enter Tryd.func80, Tryd.ntmps80
    go_wp2
    go_ret
    exact ⟨rfl, rfl⟩
theorem digit_as (v : Value) (n : Nat) (i : Int) (k : Nat) (hk : i = (k : Int)) (d : Int) (hd : Hid (((dig n k : Nat) : Int) = d)) (w : World) (h : IsN w v n) (hi : k < 4611686018427387904) :
    Calls Tryd.prog 80 #[v, .int .i64 i] w fun e w' => e = .returned (.int .u32 d) ∧ w = w' := by
  subst hk; obtain rfl := hd.out; exact digit_any v n k w h hi
theorem row2 (W : World) (g : Nat) (x y : Int) (n : Nat) (hg : g < W.heap.size) (hn : n < 18446744073709551616) (hx : W.cell? ⟨g, 0, none⟩ = some (.int .u32 x)) (hy : W.cell? ⟨g, 1, none⟩ = some (.int .u32 y)) (ex : x = ((n % 4294967296 : Nat) : Int)) (ey : y = ((n / 4294967296 : Nat) : Int)) : Row W (some ⟨g, 0, none⟩) 2 2 n := by
  refine ⟨hn, Nat.le_refl _, by decide, .inr ⟨g, rfl, hg, fun i hi => ?_⟩⟩
  rcases (by omega : i = 0 ∨ i = 1) with rfl | rfl
  · rw [hx, ex, dig_0]
  · rw [hy, ey, dig_1, Nat.mod_eq_of_lt (by omega)]
theorem row4 (W : World) (g : Nat) (x y z t : Int) (n : Nat) (hg : g < W.heap.size) (hn : n < 340282366920938463463374607431768211456) (hx : W.cell? ⟨g, 0, none⟩ = some (.int .u32 x)) (hy : W.cell? ⟨g, 1, none⟩ = some (.int .u32 y)) (hz : W.cell? ⟨g, 2, none⟩ = some (.int .u32 z)) (ht : W.cell? ⟨g, 3, none⟩ = some (.int .u32 t))
    (ex : x = ((dig n 0 : Nat) : Int)) (ey : y = ((dig n 1 : Nat) : Int)) (ez : z = ((dig n 2 : Nat) : Int)) (et : t = ((dig n 3 : Nat) : Int)) : Row W (some ⟨g, 0, none⟩) 4 4 n := by
  refine ⟨hn, Nat.le_refl _, by decide, .inr ⟨g, rfl, hg, fun i hi => ?_⟩⟩
  rcases (by omega : i = 0 ∨ i = 1 ∨ i = 2 ∨ i = 3) with rfl | rfl | rfl | rfl
  · rw [hx, ex]
  · rw [hy, ey]
  · rw [hz, ez]
  · rw [ht, et]
theorem of_any' (v : Int) (h0 : 0 ≤ v) (h1 : v < 18446744073709551616) (w : World) : Calls Tryd.prog 82 #[.int .u64 v] w (RetN v.toNat w) := by
  go_enter Tryd.func82, Tryd.ntmps82
  go_wp2_with (go_at_call 86; refine (trim_any _ 2 2 v.toNat _ (row2 _ _ (v % 4294967296) (v / 4294967296) _ (by simp) (by omega) (by simp [go_sem]) (by simp [go_sem]) (by omega) (by omega))).mono ?_; rintro e w' ⟨rfl, rfl⟩)
  go_ret
  exact ⟨_, rfl, (row2 _ _ (v % 4294967296) (v / 4294967296) _ (by simp) (by omega) (by simp [go_sem]) (by simp [go_sem]) (by omega) (by omega)).cut, by (repeat (first | with_reducible assumption | with_reducible exact Below.refl _ _ | with_reducible apply Below.drew | with_reducible apply below_drewN | with_reducible refine Below.alloc ?_ (by first | omega | (simp <;> omega)) _ | with_reducible refine Below.setCell ?_ (by first | omega | (simp <;> omega)) _ | with_reducible refine Below.trans ?_ (Below.mono (by assumption) (by first | omega | (simp <;> omega)))))⟩
theorem dig_hl (x : BitVec 128) : ((dig x.toNat 0 : Nat) : Int) = loB x % 4294967296 ∧ ((dig x.toNat 1 : Nat) : Int) = loB x / 4294967296 ∧ ((dig x.toNat 2 : Nat) : Int) = hiB x % 4294967296 ∧ ((dig x.toNat 3 : Nat) : Int) = hiB x / 4294967296 := by
  have := x.isLt
  rw [dig_0, dig_1, dig_2, dig_3]
  unfold hiB loB
  omega
theorem big_any (x : BitVec 128) (w : World) : Calls Tryd.prog 20 #[Bv x] w (RetN x.toNat w) := by
  have hx := x.isLt
  obtain ⟨d0, d1, d2, d3⟩ := dig_hl x
  obtain ⟨a1, a2⟩ := hiB_word x; obtain ⟨b1, b2⟩ := loB_word x
  have D0 := Lib.hid d0; have D1 := Lib.hid d1; have D2 := Lib.hid d2; have D3 := Lib.hid d3
  clear d0 d1 d2 d3
  simp only [Bv]
  generalize hiB x = h at *
  generalize loB x = l at *
  go_enter Tryd.func20, Tryd.ntmps20
  go_wp2_with (go_at_call 86; refine (trim_any _ 4 4 x.toNat _ (row4 _ _ (l % 4294967296) (l / 4294967296) (h % 4294967296) (h / 4294967296) _ (by simp) (by omega) (by simp [go_sem]) (by simp [go_sem]) (by simp [go_sem]) (by simp [go_sem]) D0.out.symm D1.out.symm D2.out.symm D3.out.symm)).mono ?_; rintro e w' ⟨rfl, rfl⟩)
  go_ret
  exact ⟨_, rfl, (row4 _ _ (l % 4294967296) (l / 4294967296) (h % 4294967296) (h / 4294967296) _ (by simp) (by omega) (by simp [go_sem]) (by simp [go_sem]) (by simp [go_sem]) (by simp [go_sem]) D0.out.symm D1.out.symm D2.out.symm D3.out.symm).cut, by (repeat (first | with_reducible assumption | with_reducible exact Below.refl _ _ | with_reducible apply Below.drew | with_reducible apply below_drewN | with_reducible refine Below.alloc ?_ (by first | omega | (simp <;> omega)) _ | with_reducible refine Below.setCell ?_ (by first | omega | (simp <;> omega)) _ | with_reducible refine Below.trans ?_ (Below.mono (by assumption) (by first | omega | (simp <;> omega)))))⟩
/-- The lowest 128 bits of a number. -/
def nB (n : Nat) : BitVec 128 := BitVec.ofNat 128 n
theorem nB_hl (n : Nat) : loB (nB n) = ((dig n 0 : Nat) : Int) + ((dig n 1 : Nat) : Int) * 4294967296 ∧ hiB (nB n) = ((dig n 2 : Nat) : Int) + ((dig n 3 : Nat) : Int) * 4294967296 := by
  rw [dig_0, dig_1, dig_2, dig_3]
  unfold loB hiB nB
  rw [BitVec.toNat_ofNat]
  omega
set_option maxHeartbeats 1000000 in
theorem bits_as (v : Value) (n : Nat) (z : BitVec 128) (hz : Hid (nB n = z)) (w : World) (hn : Hid (IsN w v n)) :
    Calls Tryd.prog 17 #[v] w fun e w' => e = .returned (Bv z) ∧ Gr w w' := by
  obtain ⟨q0, q1⟩ := nB_hl n
  rw [hz.out] at q0 q1
  have l0 := dig_lt n 0; have l1 := dig_lt n 1; have l2 := dig_lt n 2; have l3 := dig_lt n 3
  simp only [Bv]
  rw [q0, q1]
  clear q0 q1
  obtain ⟨d0, h0⟩ : ∃ d : Nat, dig n 0 = d := ⟨_, rfl⟩
  obtain ⟨d1, h1⟩ : ∃ d : Nat, dig n 1 = d := ⟨_, rfl⟩
  obtain ⟨d2, h2⟩ : ∃ d : Nat, dig n 2 = d := ⟨_, rfl⟩
  obtain ⟨d3, h3⟩ : ∃ d : Nat, dig n 3 = d := ⟨_, rfl⟩
  rw [h0] at l0 ⊢; rw [h1] at l1 ⊢; rw [h2] at l2 ⊢; rw [h3] at l3 ⊢
  have D0 := Lib.hid (show ((dig n 0 : Nat) : Int) = (d0 : Int) by rw [h0])
  have D1 := Lib.hid (show ((dig n 1 : Nat) : Int) = (d1 : Int) by rw [h1])
  have D2 := Lib.hid (show ((dig n 2 : Nat) : Int) = (d2 : Int) by rw [h2])
  have D3 := Lib.hid (show ((dig n 3 : Nat) : Int) = (d3 : Int) by rw [h3])
  clear h0 h1 h2 h3

  go_enter Tryd.func17, Tryd.ntmps17
  go_wp2_with (first
    | (go_at_call_of 80 (Value.int IntKind.i64 0); refine (digit_as v n 0 0 rfl d0 D0 _ (hn.out.below (by (repeat (first | with_reducible assumption | with_reducible exact Below.refl _ _ | with_reducible apply Below.drew | with_reducible apply below_drewN | with_reducible refine Below.alloc ?_ (by first | omega | (simp <;> omega)) _ | with_reducible refine Below.setCell ?_ (by first | omega | (simp <;> omega)) _ | with_reducible refine Below.trans ?_ (Below.mono (by assumption) (by first | omega | (simp <;> omega))))))) (by decide)).mono ?_; rintro e w' ⟨rfl, rfl⟩)
    | (go_at_call_of 80 (Value.int IntKind.i64 1); refine (digit_as v n 1 1 rfl d1 D1 _ (hn.out.below (by (repeat (first | with_reducible assumption | with_reducible exact Below.refl _ _ | with_reducible apply Below.drew | with_reducible apply below_drewN | with_reducible refine Below.alloc ?_ (by first | omega | (simp <;> omega)) _ | with_reducible refine Below.setCell ?_ (by first | omega | (simp <;> omega)) _ | with_reducible refine Below.trans ?_ (Below.mono (by assumption) (by first | omega | (simp <;> omega))))))) (by decide)).mono ?_; rintro e w' ⟨rfl, rfl⟩)
    | (go_at_call_of 80 (Value.int IntKind.i64 2); refine (digit_as v n 2 2 rfl d2 D2 _ (hn.out.below (by (repeat (first | with_reducible assumption | with_reducible exact Below.refl _ _ | with_reducible apply Below.drew | with_reducible apply below_drewN | with_reducible refine Below.alloc ?_ (by first | omega | (simp <;> omega)) _ | with_reducible refine Below.setCell ?_ (by first | omega | (simp <;> omega)) _ | with_reducible refine Below.trans ?_ (Below.mono (by assumption) (by first | omega | (simp <;> omega))))))) (by decide)).mono ?_; rintro e w' ⟨rfl, rfl⟩)
    | (go_at_call_of 80 (Value.int IntKind.i64 3); refine (digit_as v n 3 3 rfl d3 D3 _ (hn.out.below (by (repeat (first | with_reducible assumption | with_reducible exact Below.refl _ _ | with_reducible apply Below.drew | with_reducible apply below_drewN | with_reducible refine Below.alloc ?_ (by first | omega | (simp <;> omega)) _ | with_reducible refine Below.setCell ?_ (by first | omega | (simp <;> omega)) _ | with_reducible refine Below.trans ?_ (Below.mono (by assumption) (by first | omega | (simp <;> omega))))))) (by decide)).mono ?_; rintro e w' ⟨rfl, rfl⟩))
  simp [bodyPost, results, Tryd.results17, go_sem]
  (repeat (first | with_reducible assumption | with_reducible exact Below.refl _ _ | with_reducible apply Below.drew | with_reducible apply below_drewN | with_reducible refine Below.alloc ?_ (by first | omega | (simp <;> omega)) _ | with_reducible refine Below.setCell ?_ (by first | omega | (simp <;> omega)) _ | with_reducible refine Below.trans ?_ (Below.mono (by assumption) (by first | omega | (simp <;> omega)))))
/-! ### Rows of the call's own -/
def digV (n : Nat) (k : Nat) : List Value := (List.range k).map fun i => Value.int .u32 ((dig n i : Nat) : Int)
theorem digV_len (n k : Nat) : (digV n k).length = k := by unfold digV; simp
theorem digV_succ (n k : Nat) (d : Int) (h : d = ((dig n k : Nat) : Int)) : digV n k ++ [Value.int .u32 d] = digV n (k + 1) := by
  unfold digV; rw [List.range_succ, List.map_append, h]; rfl
theorem digV_get (n k i : Nat) (h : i < k) : (digV n k)[i]? = some (Value.int .u32 ((dig n i : Nat) : Int)) := by
  unfold digV; simp [h]
theorem own_row {w : World} {base n k : Nat} {v : Value} (h : w.ownsRow base 91 1 v k (digV n k)) (hn : n < B32 k) (hk : k ≤ 1000) : ∃ s c, v = .slice s k c ∧ Row w s k c n := by
  rcases h.2 with ⟨rfl, rfl⟩ | ⟨g, cap, cur, rfl, hb, hg, hle, _⟩
  · exact ⟨none, 0, rfl, hn, Nat.le_refl _, hk, .inl rfl⟩
  · refine ⟨_, cap, rfl, hn, hle, hk, .inr ⟨g, rfl, (h.lt g rfl).2, fun i hi => ?_⟩⟩
    have h1 := h.cells (g := g) rfl i _ (digV_get n k i hi)
    rw [Go.WideShapes.add_plain] at h1
    simpa using h1
theorem own_below' {w w' : World} {base e size n : Nat} {v : Value} {xs : List Value} (h : w.ownsRow base e size v n xs) (hb : Below w.heap.size w w') : w'.ownsRow base e size v n xs :=
  h.kept (row := none) ⟨hb.os, hb.tape, hb.output, hb.size, fun k hk _ => hb.block k hk⟩ (by
    cases hv : v.ownBlock
    · exact .inl rfl
    · exact .inr (by simp))
theorem one_cell {W : World} {g : Nat} {d : Int} (h : W.cell? ⟨g, 0, none⟩ = some (.int .u32 d)) : ∀ (j : Nat) (u : Value), [Value.int .u32 d][j]? = some u → W.cell? ((⟨g, 0, none⟩ : Addr).add j) = some u := by
  intro j u hu
  rw [Go.WideShapes.add_plain]
  cases j with
  | zero => simp at hu; rw [← hu]; exact h
  | succ j => simp at hu
theorem one_ok {d : Int} : ∀ u ∈ [Value.int .u32 d], u.oneCell' = true := by intro u hu; simp at hu; subst hu; rfl
/-- 'append(own, digit)'. -/
theorem wpList_append_dig {ops : Array Oper} {rest : List Oper} {o : Oper} {a : Act} {Q : Exit → Act → World → Prop} {w : World} (hgd : o.guard = none) (s x : Operand)
    (ho : o.op = .call { callee := .builtin .append, args := #[s, x], argTypes := #[29, 29] }) (base : Nat) (v : Value) (n k : Nat) (hs : a.eval s = v) (hown : w.ownsRow base 91 1 v k (digV n k))
    (g : Nat) (d : Int) (hx : a.eval x = .slice (some ⟨g, 0, none⟩) 1 1) (hc : w.cell? ⟨g, 0, none⟩ = some (.int .u32 d)) (hd : d = ((dig n k : Nat) : Int)) (hk : k ≤ 2000) (hbase : base ≤ w.heap.size)
    (h : ∀ v' w', w'.ownsRow base 91 1 v' (k + 1) (digV n (k + 1)) → w.grownBy w' v.ownBlock → wpList Tryd.prog ops Q rest (a.put o.dst v') w') : wpList Tryd.prog ops Q (o :: rest) a w := by
  obtain ⟨i0, hi, hz0, hz1, hz2⟩ := info_parts infoU
  exact wpList_append_own w hgd s x 29 ho base 91 i0 _ 1 4 Tryd.underlying29 hi hz0 hz1 hz2 rfl (by decide) v k (digV n k) hs hown ⟨g, 0, none⟩ 1 1 [.int .u32 d] hx rfl (one_cell hc) one_ok
    (by unfold maxLen; omega) (by omega) hbase fun v' w' h1 h2 _ => h v' w' (by rw [← digV_succ n k d hd]; exact h1) h2
end Hb
end Go.Proofs.YtbelighbkjadkaaDoor
