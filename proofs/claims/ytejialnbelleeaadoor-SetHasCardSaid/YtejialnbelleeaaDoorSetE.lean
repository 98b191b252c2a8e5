/-
  Package set: each, and its iterator.
-/
import Derived.Test.YtejialnbelleeaaDoorSetC
import Derived.RangeFuncNested
import Derived.RangeFuncBound
import Derived.RangeFuncCalls
import Derived.RangeFuncLeaves
import Derived.Shelf.Abstract
import Derived.Shelf.RegionOpen
import Derived.WalkKit
import Derived.OwnWalkIn
import Derived.TacticsInMore
import Derived.LoopNIn
import Derived.LoopIn
namespace Go.Proofs.YtejialnbelleeaaDoor
open Go Go.RowKit Go.Shelf
attribute [local go_sem] Oper.semAt_some

/-- The bytes of a set, from i on, among m. -/
def upS (s : Bs) : Nat → Nat → List (Fin 256)
  | 0, _ => []
  | m + 1, i => if h : i < 256 then (if s.getLsbD i then ⟨i, h⟩ :: upS s m (i + 1) else upS s m (i + 1)) else []
def bytesS (s : Bs) : List (Fin 256) := upS s 256 0

theorem upS_some {s : Bs} : ∀ (m i n : Nat), i + m ≤ 256 → firstP s.getLsbD m i = some n → ∃ h : n < 256, upS s m i = ⟨n, h⟩ :: upS s (m - (n + 1 - i)) (n + 1)
  | 0, i, n, _, h => by simp [firstP] at h
  | m + 1, i, n, hm, h => by
    simp only [firstP] at h
    have hi : i < 256 := by omega
    split at h
    · rename_i hp
      cases h
      refine ⟨hi, ?_⟩
      simp only [upS, hi, hp, dite_true, if_true]
      rw [show m + 1 - (i + 1 - i) = m by omega]
    · rename_i hp
      obtain ⟨hn, e⟩ := upS_some m (i + 1) n (by omega) h
      have hb := (firstP_some m (i + 1) h).1
      refine ⟨hn, ?_⟩
      simp only [upS, hi, hp, dite_true]
      rw [show m + 1 - (n + 1 - i) = m - (n + 1 - (i + 1)) by omega]
      simpa using e
theorem upS_none {s : Bs} : ∀ (m i : Nat), i + m ≤ 256 → firstP s.getLsbD m i = none → upS s m i = []
  | 0, i, _, _ => rfl
  | m + 1, i, hm, h => by
    simp only [firstP] at h
    have hi : i < 256 := by omega
    split at h
    · cases h
    · rename_i hp
      simp only [upS, hi, hp, dite_true]
      simpa using upS_none m (i + 1) (by omega) h
theorem upS_length {s : Bs} : ∀ (m i : Nat), (upS s m i).length ≤ m
  | 0, i => Nat.le_refl _
  | m + 1, i => by
    have := upS_length (s := s) m (i + 1)
    unfold upS
    split
    · split
      · simp; omega
      · omega
    · simp
theorem bytesS_length (s : Bs) : (bytesS s).length ≤ 256 := upS_length 256 0
theorem upS_next {s : Bs} {k n : Nat} (hk : k ≤ 256) (h : nextS s k = some n) : ∃ h : n < 256, upS s (256 - k) k = ⟨n, h⟩ :: upS s (256 - (n + 1)) (n + 1) := by
  obtain ⟨hn, e⟩ := upS_some (256 - k) k n (by omega) h
  refine ⟨hn, ?_⟩
  have := (firstP_some _ _ h).1
  rw [e, show 256 - k - (n + 1 - k) = 256 - (n + 1) by omega]
theorem upS_last {s : Bs} {k : Nat} (hk : k ≤ 256) (h : nextS s k = none) : upS s (256 - k) k = [] := upS_none _ _ (by omega) h

/-- What a round over a set's bytes has to keep: the blocks below n₀, and the set's own. -/
def GE (n₀ B : Nat) : Nat → Prop := fun k => n₀ ≤ k ∧ k ≠ B
def byteV (x : Fin 256) : Value := .int .u8 ((x.val : Nat) : Int)

def nb : Option Nat → Int
  | some b => b
  | none => 0
theorem nextV_parts (o : Option Nat) : nextV o = .tuple #[.int .u8 (nb o), .bool o.isSome] := by cases o <;> rfl

theorem each_any (s : Bs) (w : World) :
    Calls Tryd.prog 48 #[setV s] w fun e w' => e = .returned (.func (.func 62) #[] #[.pointer (some ⟨w.heap.size, 0, none⟩)]) ∧ w' = w.alloc (.cells (setC s) 24 (0, 0)) := by
  have hmf : ∀ (fn : Fn) (first cap : Array Value) (w : World), (Instr.makeFunc fn first cap).run Tryd.prog w = .ok (.func fn first cap) w := fun _ _ _ _ => rfl
  go_enter Tryd.func48, Tryd.ntmps48
  go_wp2
  go_ret
  exact ⟨rfl, rfl⟩

theorem _root_.Go.RowKit.Below.grownAny {w w' : World} (h : Below w.heap.size w w') : w.grownBy w' none := ⟨h.os, h.tape, h.output, h.size, fun k hk _ => h.block k hk⟩

set_option maxRecDepth 100000 in
set_option maxHeartbeats 2000000 in
theorem each1_stops (s : Bs) (n₀ B n : Nat) (hn : 1 ≤ n) (w : World) (hB : w.heap[B]? = some (.cells (setC s) 24 (0, 0))) (htab : TabOk w) (hn0 : 0 < n₀) :
    SeqStopsK Fence.wide n Tryd.prog 62 #[.pointer (some ⟨B, 0, none⟩)] (fun x => #[byteV x]) (Ext (GE n₀ B)) (fun xs => xs = bytesS s) (fun pre => pre <+: bytesS s) 256 w := fun l J Jx W hW hJ hJx hY h0 => by
  have hBW : W.heap[B]? = some (.cells (setC s) 24 (0, 0)) := by rw [hW.block B (lt_of_block hB)]; exact hB
  have htW : TabOk W := htab.below hW
  have hlen := bytesS_length s
  refine callsIn_of_wp Tryd.func62 rfl trivial ?_ rfl
  simp only [Tryd.ntmps62, List.size_toArray, List.length_cons, List.length_nil, Nat.reduceAdd, Nat.reduceSub, Array.replicate_succ, Array.replicate_zero, List.push_toArray, List.append_toArray, List.nil_append, List.cons_append]
  have hnx : ∀ (k : Nat) (W : World), TabOk W → k ≤ 256 → CallsIn Fence.wide (n - 1) Tryd.prog 46 #[setV s, .int .i64 (k : Int)] W fun e w' => e = .returned (.tuple #[.int .u8 (nb (nextS s k)), .bool (nextS s k).isSome]) ∧ Below W.heap.size W w' := fun k W ht hk => by
    have := next_any s (k : Int) W ht (by omega) (by omega)
    rw [show (max (k : Int) 0).toNat = k by omega, nextV_parts] at this
    exact callsIn_wide.2 this
  obtain ⟨c0, c1, c2, c3⟩ := cells4 hBW
  gi_wp2
  refine (wpIn_wide (n := n)).2 (wp_scope_straight ((wpIn_wide (n := n)).1 ?_))
  gi_wp2
  refine wpIn_label ?_
  gi_wp2_with (refine ⟨trivial, ?_⟩; gi_at_call 46; refine (hnx 0 _ htW (by omega)).mono ?_; rintro e w1 ⟨rfl, hb1⟩)
  gi_loopw [3, 4, 5] (fun va vb vi wr => ∃ (k : Nat) (pre : List (Fin 256)), k ≤ 256 ∧ va = .int .i64 (k : Int) ∧ vb = .int .u8 (nb (nextS s k)) ∧ vi = .bool (nextS s k).isSome ∧ pre ++ upS s (256 - k) k = bytesS s ∧ J pre wr ∧ wr.heap[B]? = some (.cells (setC s) 24 (0, 0)) ∧ TabOk wr) (fun va _ _ _ => 256 - (intOf va).toNat)
  case atStart =>
    exact ⟨0, [], by omega, rfl, rfl, rfl, rfl, hJ _ _ _ _ h0 hb1.grownAny (by simp), by rw [hb1.block B (lt_of_block hBW)]; exact hBW, htW.below hb1⟩
  case round =>
    obtain ⟨k, pre, hk, rfl, rfl, rfl, hpre, hj, hBr, htr⟩ := hrel
    cases ho : nextS s k with
    | none =>
      simp only [show nb none = 0 from rfl, show (none : Option Nat).isSome = false from rfl]
      gi_wp2
      dsimp only [Exit.noGoto]
      gi_wp2
      go_end0
      rw [upS_last hk ho, List.append_nil] at hpre
      exact ⟨⟨_, rfl⟩, .inl ⟨pre, hpre, hj⟩⟩
    | some x =>
      obtain ⟨hx, he⟩ := upS_next hk ho
      have hkx := (firstP_some _ _ ho).1
      rw [he] at hpre
      have hpl : pre.length < 256 := by rw [← hpre] at hlen; simp at hlen; omega
      obtain ⟨fn, tmps, assign, body, hy, hR⟩ := hY pre ⟨x, hx⟩ wr hj hpl
      have h0x : (0 : Int) ≤ x := by omega
      have h1x : (x : Int) < 256 := by omega
      have hy' : (Instr.yield l #[Value.int .u8 (x : Int)]).run Tryd.prog wr = .ok (.round l fn tmps assign body) wr := hy
      simp only [show nb (some x) = (x : Int) from rfl, show (some x).isSome = true from rfl]
      gi_wp2
      refine hR.mono ?_
      rintro e W3 (⟨rfl, hJ3, hk3⟩ | ⟨rfl, hJx3⟩)
      · have hB3 : W3.heap[B]? = some (.cells (setC s) 24 (0, 0)) := ext_heap hk3 hBr (fun h => h.2 rfl)
        have ht3 : TabOk W3 := let ⟨t, h⟩ := htr; ⟨t, ext_heap hk3 h (fun h => by unfold GE at h; omega)⟩
        obtain ⟨d0, d1, d2, d3⟩ := cells4 hB3
        have hx2 := hnx (x + 1) _ ht3 (by omega)
        rw [show ((x + 1 : Nat) : Int) = (x : Int) + 1 by omega] at hx2
        gi_wp2_with (refine ⟨trivial, ?_⟩; gi_at_call 46; refine hx2.mono ?_; rintro e w4 ⟨rfl, hb4⟩)
        refine ⟨⟨x + 1, pre ++ [⟨x, hx⟩], by omega, by simp, rfl, rfl, by rw [← hpre, List.append_assoc]; rfl, hJ _ _ _ _ hJ3 hb4.grownAny (by simp), by rw [hb4.block B (lt_of_block hB3)]; exact hB3, ht3.below hb4⟩, ?_⟩
        simp [intOf]
        omega
      · gi_wp2
        dsimp only [Exit.noGoto]
        gi_wp2
        go_end0
        exact ⟨⟨_, rfl⟩, .inr ⟨pre ++ [⟨x, hx⟩], ⟨_, by rw [← hpre, List.append_assoc]; rfl⟩, hJx3⟩⟩

end Go.Proofs.YtejialnbelleeaaDoor
