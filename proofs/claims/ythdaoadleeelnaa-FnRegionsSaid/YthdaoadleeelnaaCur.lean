/- The cursor of the makers of arguments: what each step leaves, for all byte slices. The cursor of the makers of arguments: l01New, l01Byte, l01Below, l26New. -/
import Derived.Test.YthdaoadleeelnaaNum
namespace Go.Proofs.Ythdaoadleeelnaa
open Go.ChangeShapes Go.WideShapes Go.ChangeAt Go.RowKit
attribute [local go_sem ↓] Go.wp_at_zero Go.wp_at_succ
set_option linter.unusedVariables false

/-- A slice of bytes that came in: nothing is read of it, or each element reads as a byte, below block B. -/
def BytesAt (w : World) (B : Nat) (A : Option Addr) (n : Nat) : Prop :=
  n = 0 ∨ ∃ b off : Nat, A = some ⟨b, off, none⟩ ∧ b < B ∧ ∀ k, k < n → ∃ x : Int, w.cell? ⟨b, off + k, none⟩ = some (.int .u8 x) ∧ 0 ≤ x ∧ x ≤ 255

theorem BytesAt.below {w w' : World} {B : Nat} {A : Option Addr} {n : Nat} (h : BytesAt w B A n) (hb : Below B w w') : BytesAt w' B A n := by
  rcases h with h | ⟨b, off, e, hlt, hc⟩
  · exact .inl h
  · refine .inr ⟨b, off, e, hlt, fun k hk => ?_⟩
    obtain ⟨x, hx, h1, h2⟩ := hc k hk
    exact ⟨x, (hb.cell (p := ⟨b, off + k, none⟩) hlt).trans hx, h1, h2⟩

theorem BytesAt.mono {w : World} {B B' : Nat} {A : Option Addr} {n : Nat} (h : BytesAt w B A n) (hB : B ≤ B') : BytesAt w B' A n := by
  rcases h with h | ⟨b, off, e, hlt, hc⟩
  · exact .inl h
  · exact .inr ⟨b, off, e, by omega, hc⟩

theorem bytesAt_mk {w : World} {x : Addr} {len cap : Nat} {zs : List Int} (hl : len ≤ cap) (hz : zs.length = cap) (hcell : ∀ i, i < zs.length → w.cell? (x.add i) = some (.int .u8 (zs.getD i 0))) (hwz : ∀ n ∈ zs, (Lit.int .u8 n).wf = true) :
    BytesAt w w.heap.size (some x) len := by
  rcases Nat.eq_zero_or_pos len with h0 | h0
  · exact .inl h0
  · obtain ⟨b, off, spot⟩ := x
    have hc := hcell 0 (by omega)
    have hspot : spot = none := by simpa [Addr.add] using World.cell?_spot hc
    subst hspot
    have hadd : ∀ k : Nat, (Addr.add ⟨b, off, none⟩ k : Addr) = ⟨b, off + k, none⟩ := by
      intro k; unfold Addr.add; split <;> simp_all
    have hlt : b < w.heap.size := by
      rcases Nat.lt_or_ge b w.heap.size with h | h
      · exact h
      · simp [World.cell?, hadd, Array.getElem?_eq_none h] at hc
    refine .inr ⟨b, off, rfl, hlt, fun k hk => ⟨zs.getD k 0, by rw [← hadd]; exact hcell k (by omega), ?_⟩⟩
    have hm : zs.getD k 0 ∈ zs := by
      simp [List.getD, List.getElem?_eq_getElem (show k < zs.length by omega)]
    have := hwz _ hm
    generalize zs.getD k 0 = q at *
    simp [Lit.wf, IntKind.min, IntKind.max, IntKind.bits, IntKind.signed] at this
    omega

/-- The cursor in block g, over a slice of bytes that came in. -/
def CurAt (w : World) (B g : Nat) (A : Option Addr) (n c : Nat) : Prop :=
  B ≤ g ∧ n ≤ 1048576 ∧ BytesAt w B A n ∧ ∃ (i : Nat) (h : Int), i ≤ n ∧ w.heap[g]? = some (.cells #[.slice A n c, .int .i64 i, .int .i64 h] 87 (0, 0))

theorem heap_lt {w : World} {g : Nat} {o : Obj} (h : w.heap[g]? = some o) : g < w.heap.size := by
  rcases Nat.lt_or_ge g w.heap.size with hlt | hge
  · exact hlt
  · rw [Array.getElem?_eq_none hge] at h; cases h

theorem CurAt.lt {w : World} {B g : Nat} {A : Option Addr} {n c : Nat} (h : CurAt w B g A n c) : g < w.heap.size := by
  obtain ⟨_, _, _, i, k, _, hh⟩ := h; exact heap_lt hh

/-- New blocks, and writes to block g alone. -/
theorem grown_refl (w : World) (g : Option Nat) : w.grownBy w g := ⟨rfl, rfl, rfl, Nat.le_refl _, fun _ _ _ => rfl⟩

theorem grown_trans {w w1 w2 : World} {g : Option Nat} (h : w.grownBy w1 g) (k : w1.grownBy w2 g) : w.grownBy w2 g :=
  ⟨k.os.trans h.os, k.tape.trans h.tape, k.output.trans h.output, Nat.le_trans h.size k.size, fun b hb hn => (k.block b (Nat.lt_of_lt_of_le hb h.size) hn).trans (h.block b hb hn)⟩

theorem grown_drew {w w1 : World} {g : Option Nat} (h : w.grownBy w1 g) : w.grownBy w1.drew g := ⟨h.os, h.tape, h.output, h.size, h.block⟩

theorem grown_drewN {w w1 : World} {g : Option Nat} (h : w.grownBy w1 g) (n : Nat) : w.grownBy (w1.drewN n) g := ⟨h.os, h.tape, h.output, h.size, h.block⟩

theorem grown_alloc {w w1 : World} {g : Option Nat} (h : w.grownBy w1 g) (o : Obj) : w.grownBy (w1.alloc o) g :=
  ⟨h.os, h.tape, h.output, by rw [World.size_alloc]; have := h.size; omega, fun b hb hn => (Below.heap_alloc w1 o b (Nat.lt_of_lt_of_le hb h.size)).trans (h.block b hb hn)⟩

theorem grown_set {w w1 : World} {g : Nat} (h : w.grownBy w1 (some g)) {p : Addr} (hp : p.block = g) (u : Value) : w.grownBy (w1.setCell p u) (some g) := by
  refine ⟨h.os, h.tape, h.output, by rw [World.size_setCell]; exact h.size, fun b hb hn => ?_⟩
  rw [Below.heap_setCell w1 p u b (by rw [hp]; rintro rfl; exact hn rfl)]
  exact h.block b hb hn
/-- A store to a block that the call made. -/
theorem grown_own {w w1 : World} {g : Option Nat} (h : w.grownBy w1 g) {p : Addr} (hp : w.heap.size ≤ p.block) (u : Value) : w.grownBy (w1.setCell p u) g := by
  refine ⟨h.os, h.tape, h.output, by rw [World.size_setCell]; exact h.size, fun b hb hn => ?_⟩
  rw [Below.heap_setCell w1 p u b (by omega)]
  exact h.block b hb hn

theorem grown_below {w w1 : World} {B : Nat} {g : Option Nat} (h : w.grownBy w1 g) (hB : B ≤ w.heap.size) (hg : ∀ k, g = some k → B ≤ k) : Below B w w1 := (Below.refl B w).grown h hB hg

theorem grown_below_of {w w1 : World} {B g : Nat} (h : w.grownBy w1 (some g)) (hB : B ≤ g) (hg : g < w.heap.size) : Below B w w1 := grown_below h (by omega) (by intro k e; injection e with e; omega)

theorem below_grown {w w1 : World} {g : Option Nat} (h : Below w.heap.size w w1) : w.grownBy w1 g := ⟨h.os, h.tape, h.output, h.size, fun b hb _ => h.block b hb⟩

theorem grown_cell {w w1 : World} {g : Nat} (h : w.grownBy w1 (some g)) {b o : Nat} {v : Value} (hc : w.cell? ⟨b, o, none⟩ = some v) (hb : b < w.heap.size) (hne : b ≠ g) : w1.cell? ⟨b, o, none⟩ = some v :=
  (World.cell?_of_block (w := w) (h.block b hb (by intro e; injection e with e; exact hne e))).trans hc

theorem grown_frozen {w w1 : World} {g : Nat} (h : w.grownBy w1 (some g)) {b o : Nat} {v : Bool} (hc : w.frozen? ⟨b, o, none⟩ = v) (hb : b < w.heap.size) (hne : b ≠ g) : w1.frozen? ⟨b, o, none⟩ = v :=
  (World.frozen?_of_block (w := w) (h.block b hb (by intro e; injection e with e; exact hne e))).trans hc

theorem CurAt.kept {w w1 : World} {B g : Nat} {A : Option Addr} {n c : Nat} (h : CurAt w B g A n c) (hb : Below (g + 1) w w1) : CurAt w1 B g A n c := by
  obtain ⟨h1, h2, h3, i, k, hi, hh⟩ := h
  exact ⟨h1, h2, h3.below (hb.mono (by omega)), i, k, hi, (hb.block g (by omega)).trans hh⟩

def NewPost (w : World) (A : Option Addr) (n c : Nat) (e : Ending) (w' : World) : Prop :=
  ∃ g, e = .returned (.pointer (some ⟨g, 0, none⟩)) ∧ CurAt w' w.heap.size g A n c ∧ Below w.heap.size w w'

theorem newPost_mk {w : World} {A : Option Addr} {n c : Nat} (hn : n ≤ 1048576) (hB : BytesAt w w.heap.size A n) (q : Int) :
    NewPost w A n c (.returned (.pointer (some ⟨w.heap.size, 0, none⟩))) (w.alloc (.cells #[.slice A n c, .int .i64 0, .int .i64 q] 87)) :=
  ⟨_, rfl, ⟨Nat.le_refl _, hn, hB.below ((Below.refl _ _).alloc (Nat.le_refl _) _), 0, q, Nat.zero_le _, heap_alloc_new w _⟩, (Below.refl _ _).alloc (Nat.le_refl _) _⟩

set_option maxHeartbeats 1000000 in
set_option maxRecDepth 100000 in
set_option maxRecDepth 100000 in
theorem l01New_any (A : Option Addr) (n c : Nat) (w : World) (hn : n ≤ 1048576) (hB : BytesAt w w.heap.size A n) :
    Calls Try.prog 59 #[.slice A n c] w (NewPost w A n c) := by
  have HB := Lib.hid hB
  go_enter Try.func59, Try.ntmps59
  go_wp2
  go_loop [3, 4] (fun h i => ∃ (k : Nat) (q : Int), k ≤ n ∧ i = .int .i64 k ∧ h = .int .i64 q) (fun _ i => n - (intOf i).toNat)
  case atStart => exact ⟨0, _, Nat.zero_le _, rfl, rfl⟩
  case round =>
    obtain ⟨k, q, hk, rfl, rfl⟩ := hrel
    by_cases hlt : k < n
    · rcases hB with h0 | ⟨b, off, rfl, hb, hc⟩
      · omega
      · obtain ⟨x, hx, h1, h2⟩ := hc k hlt
        clear hc
        by_cases h4 : k < 4000
        · go_wp2
          go_round
          case rel => exact ⟨k + 1, _, by omega, by go_num, rfl⟩
          case measure => simp [intOf]; omega
        · go_wp2
          go_ret
          exact newPost_mk hn HB.out _
    · clear hB
      go_wp2
      go_ret
      exact newPost_mk hn HB.out _

theorem i64_and255 (n : Int) : bits .and .i64 n 255 = n % 256 := by
  have h255 : (BitVec.ofInt 64 255).toNat = 2 ^ 8 - 1 := by decide
  have key : (BitVec.ofInt 64 n &&& BitVec.ofInt 64 255).toNat = (n % ((2 ^ 64 : Nat) : Int)).toNat % 2 ^ 8 := by
    rw [BitVec.toNat_and, BitVec.toNat_ofInt, h255, Nat.and_two_pow_sub_one_eq_mod]
  show IntKind.i64.wrap ((BitVec.ofInt 64 n &&& BitVec.ofInt 64 255).toNat : Nat) = n % 256
  rw [key, IntKind.wrap_i64]
  omega

theorem and255 (n : Int) : 0 ≤ bits .and .i64 n 255 ∧ bits .and .i64 n 255 ≤ 255 := by rw [i64_and255]; omega

theorem blk_set {w : World} {g : Nat} {cs : Array Value} {t : TypeId} (h : w.heap[g]? = some (.cells cs t (0, 0))) (i : Nat) (u : Value) : (w.setCell ⟨g, i, none⟩ u).heap[g]? = some (.cells (cs.setIfInBounds i u) t (0, 0)) := by
  simp [World.setCell, Array.getElem?_modify, h]

theorem heap_set_congr {W W' : World} {p : Addr} {u : Value} (h : W.heap = W'.heap) : (W.setCell p u).heap = (W'.setCell p u).heap := by
  unfold World.setCell; rw [h]

def BytePost (w : World) (B g : Nat) (A : Option Addr) (n c : Nat) (e : Ending) (w' : World) : Prop :=
  ∃ x : Int, 0 ≤ x ∧ x ≤ 255 ∧ e = .returned (.int .i64 x) ∧ CurAt w' B g A n c ∧ w.grownBy w' (some g)

theorem byte_one {w w1 : World} {B g : Nat} {A : Option Addr} {n c i : Nat} {h : Int} (hBg : B ≤ g) (hn : n ≤ 1048576) (hB : BytesAt w B A n) (hi : i ≤ n)
    (hh : w.heap[g]? = some (.cells #[.slice A n c, .int .i64 i, .int .i64 h] 87 (0, 0))) (hg : g < w.heap.size) (q : Int) (x : Int)
    (hw : w1.heap = (w.setCell ⟨g, 2, none⟩ (.int .i64 q)).heap) (hg1 : w.grownBy w1 (some g)) :
    BytePost w B g A n c (.returned (.int .i64 (bits .and .i64 x 255))) w1 := by
  obtain ⟨b1, b2⟩ := and255 x
  refine ⟨_, b1, b2, rfl, ⟨hBg, hn, hB.below (grown_below_of hg1 hBg hg), i, q, hi, ?_⟩, hg1⟩
  rw [hw, blk_set hh]; rfl

theorem byte_two {w w1 : World} {B g : Nat} {A : Option Addr} {n c i : Nat} {h : Int} (hBg : B ≤ g) (hn : n ≤ 1048576) (hB : BytesAt w B A n) (hi : i < n)
    (hh : w.heap[g]? = some (.cells #[.slice A n c, .int .i64 i, .int .i64 h] 87 (0, 0))) (hg : g < w.heap.size) (q : Int) (x : Int)
    (hw : w1.heap = ((w.setCell ⟨g, 2, none⟩ (.int .i64 q)).setCell ⟨g, 1, none⟩ (.int .i64 ((i : Int) + 1))).heap) (hg1 : w.grownBy w1 (some g)) :
    BytePost w B g A n c (.returned (.int .i64 (bits .and .i64 x 255))) w1 := by
  obtain ⟨b1, b2⟩ := and255 x
  refine ⟨_, b1, b2, rfl, ⟨hBg, hn, hB.below (grown_below_of hg1 hBg hg), i + 1, q, hi, ?_⟩, hg1⟩
  rw [hw, blk_set (blk_set hh 2 _) 1]; rfl

set_option maxHeartbeats 1000000 in
set_option maxRecDepth 100000 in
set_option maxRecDepth 100000 in
theorem l01Byte_any (B g : Nat) (A : Option Addr) (n c : Nat) (w : World) (hC : CurAt w B g A n c) :
    Calls Try.prog 76 #[.pointer (some ⟨g, 0, none⟩)] w (BytePost w B g A n c) := by
  have HC := Lib.hid hC
  have hglt := hC.lt
  obtain ⟨hBg, hn, hB, i, h, hi, hh⟩ := hC
  have hc0 : w.cell? ⟨g, 0, none⟩ = some (.slice A n c) := cell_of_row w g 0 _ _ _ hh
  have hc1 : w.cell? ⟨g, 1, none⟩ = some (.int .i64 i) := cell_of_row w g 1 _ _ _ hh
  have hc2 : w.cell? ⟨g, 2, none⟩ = some (.int .i64 h) := cell_of_row w g 2 _ _ _ hh
  have hf : ∀ k, w.frozen? ⟨g, k, none⟩ = false := fun k => by simp [World.frozen?, hh]
  have hf1 := hf 1
  have hf2 := hf 2
  clear hf
  have HH := Lib.hid hh
  have HB := Lib.hid hB
  clear hh
  by_cases hlt : i < n
  · rcases hB with h0 | ⟨b, off, rfl, hb, hcs⟩
    · omega
    · obtain ⟨x, hx, hx1, hx2⟩ := hcs i hlt
      clear hcs
      go_enter Try.func76, Try.ntmps76
      go_wp2
      go_quiet (fail)
      go_wp2
      go_quiet (fail)
      go_wp2
      go_quiet (fail)
      go_wp2
      go_ret
      refine byte_two hBg hn HB.out hlt HH.out hglt (wrap64 (wrap64 (h * 6364136223846793005) + 1442695040888963407)) _ ?_ ?_
      · exact heap_set_congr (World.heap_drewN _ _)
      · repeat (first | (with_reducible exact grown_refl _ _) | (with_reducible refine grown_drewN ?_ _) | (with_reducible refine grown_drew ?_) | (with_reducible refine grown_set ?_ rfl _))
  · clear hB
    go_enter Try.func76, Try.ntmps76
    go_wp2
    go_quiet (fail)
    go_wp2
    go_quiet (fail)
    go_wp2
    go_ret
    refine byte_one hBg hn HB.out hi HH.out hglt (wrap64 (wrap64 (h * 6364136223846793005) + 1442695040888963407)) _ ?_ ?_
    · simp only [World.heap_drewN]
    · repeat (first | (with_reducible exact grown_refl _ _) | (with_reducible refine grown_drewN ?_ _) | (with_reducible refine grown_drew ?_) | (with_reducible refine grown_set ?_ rfl _))

def BlwPost (m : Int) (w : World) (B g : Nat) (A : Option Addr) (n c : Nat) (e : Ending) (w' : World) : Prop :=
  ∃ x : Int, 0 ≤ x ∧ x < m ∧ e = .returned (.int .i64 x) ∧ CurAt w' B g A n c ∧ w.grownBy w' (some g)

theorem blw_mk {m x y : Int} {w w' : World} {B g : Nat} {A : Option Addr} {n c : Nat} (hm : 1 ≤ m) (hy : y = x % m) (hC : CurAt w' B g A n c) (hg : w.grownBy w' (some g)) : BlwPost m w B g A n c (.returned (.int .i64 y)) w' := by
  subst hy
  exact ⟨_, Int.emod_nonneg _ (by omega), Int.emod_lt_of_pos _ (by omega), rfl, hC, hg⟩

set_option maxHeartbeats 1000000 in
set_option maxRecDepth 100000 in
theorem l01Below_any (m : Int) (B g : Nat) (A : Option Addr) (n c : Nat) (w : World) (hC : CurAt w B g A n c) (h1 : 1 ≤ m) (h2 : m ≤ 1000000) :
    Calls Try.prog 60 #[.pointer (some ⟨g, 0, none⟩), .int .i64 m] w (BlwPost m w B g A n c) := by
  by_cases h3 : m ≤ 256
  · go_enter Try.func60, Try.ntmps60
    go_wp2_with (go_at_call 76; refine (l01Byte_any B g A n c w hC).mono ?_; rintro e w1 ⟨x, hx1, hx2, rfl, hC1, hg1⟩)
    go_ret
    exact blw_mk (x := x) h1 rfl hC1 hg1
  · go_enter Try.func60, Try.ntmps60
    go_wp2_with fail
    go_at_call 76; refine (l01Byte_any B g A n c w hC).mono ?_; rintro e w1 ⟨x, hx1, hx2, rfl, hC1, hg1⟩
    go_wp2_with fail
    go_at_call 76; refine (l01Byte_any B g A n c w1 hC1).mono ?_; rintro e w2 ⟨y, hy1, hy2, rfl, hC2, hg2⟩
    go_wp2_with fail
    go_at_call 76; refine (l01Byte_any B g A n c w2 hC2).mono ?_; rintro e w3 ⟨z, hz1, hz2, rfl, hC3, hg3⟩
    go_wp2_with fail
    go_at_call 76; refine (l01Byte_any B g A n c w3 hC3).mono ?_; rintro e w4 ⟨u, hu1, hu2, rfl, hC4, hg4⟩
    have HG := Lib.hid (grown_trans (grown_trans (grown_trans hg1 hg2) hg3) hg4)
    have HC := Lib.hid hC4
    clear hg1 hg2 hg3 hg4 hC hC1 hC2 hC3 hC4
    go_wp2_with fail
    go_ret
    exact blw_mk (x := x * 16777216 + y * 65536 + z * 256 + u) h1 rfl HC.out HG.out

set_option maxHeartbeats 1000000 in
set_option maxRecDepth 100000 in
theorem l26New_any (m : Int) (A : Option Addr) (n c : Nat) (w : World) (hn : n ≤ 1048576) (hB : BytesAt w w.heap.size A n) (h1 : 0 ≤ m) (h2 : m ≤ 1000000) :
    Calls Try.prog 62 #[.slice A n c, .int .i64 m] w (NewPost w A n c) := by
  go_enter Try.func62, Try.ntmps62
  go_wp2_with (go_at_call 59; refine (l01New_any A n c w hn hB).mono ?_; rintro e w1 ⟨g, rfl, hC1, hb1⟩)
  have HC1 := Lib.hid hC1; clear hC1
  have HB1 := Lib.hid hb1; clear hb1
  go_loopw [6] (fun i wr => ∃ k : Nat, (k : Int) ≤ m ∧ i = .int .i64 k ∧ CurAt wr w.heap.size g A n c ∧ Below w.heap.size w wr) (fun i _ => (m - intOf i).toNat)
  case atStart => exact ⟨0, by omega, rfl, HC1.out, HB1.out⟩
  case round =>
    obtain ⟨k, hk, rfl, hC, hb⟩ := hrel
    by_cases hlt : (k : Int) < m
    · go_wp2_with (go_at_call 76; refine (l01Byte_any _ g A n c _ hC).mono ?_; rintro e w2 ⟨x, hx1, hx2, rfl, hC2, hg2⟩)
      go_roundw
      case rel => exact ⟨k + 1, by omega, by go_num, hC2, hb.trans (grown_below hg2 hb.size (by intro q e; injection e with e; rw [← e]; exact hC.1))⟩
      case measure => simp [intOf]; omega
    · go_wp2
      go_ret
      exact ⟨g, rfl, hC, hb⟩

end Go.Proofs.Ythdaoadleeelnaa
