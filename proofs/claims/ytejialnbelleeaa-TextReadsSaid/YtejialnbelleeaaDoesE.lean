/-
  The law TextReads: does, at every call.
-/
import Derived.Test.YtejialnbelleeaaDoesB
import Derived.Test.YtejialnbelleeaaDoesC
import Derived.Test.YtejialnbelleeaaDoesD
namespace Go.Proofs.Ytejialnbelleeaa
open Go Go.RowKit

/-- Where a reader stands behind a call, and its error. -/
def stepD (s : ByteArray) (x : CallR) (p : Nat) (er : Int) : Nat × Int :=
  if x.kind = 1 then (nextP s p er, er)
  else if x.kind = 2 then ((stepR p er (isL (mets s p 0 (x.l.take 6)) p)).pos, (stepR p er (isL (mets s p 0 (x.l.take 6)) p)).err)
  else if x.kind = 3 then ((stepR p er (whileR s x.a p)).pos, (stepR p er (whileR s x.a p)).err)
  else if x.kind = 4 then ((stepR p er (wantR s x.word p)).pos, (stepR p er (wantR s x.word p)).err)
  else if x.kind = 5 then ((stepR p er (numR s p x.n x.pl)).pos, (stepR p er (numR s p x.n x.pl)).err)
  else if x.kind = 6 then ((stepR p er (hexR s p x.n)).pos, (stepR p er (hexR s p x.n)).err)
  else if x.kind = 7 then ((stepR p er (failR s p x.n ((x.l.length % 3 : Nat) : Int))).pos, (stepR p er (failR s p x.n ((x.l.length % 3 : Nat) : Int))).err)
  else if x.kind = 8 then ((stepR p er (endR s p)).pos, (stepR p er (endR s p)).err)
  else (p, er)

theorem stepD_le {s : ByteArray} {p : Nat} {er : Int} (x : CallR) (hp : p ≤ s.size) : (stepD s x p er).1 ≤ s.size := by
  unfold stepD
  split
  · exact (nextP_bd er hp).2
  split
  · exact stepR_le hp (isL_fine _ hp).2.1
  split
  · exact stepR_le hp (whileR_fine _ hp).2.1
  split
  · exact stepR_le hp (wantR_fine _ hp).2.1
  split
  · exact stepR_le hp (numR_fine _ _ hp).2.1
  split
  · exact stepR_le hp (hexR_fine _ hp).2.1
  split
  · exact stepR_le hp (failR_bd _ _ hp)
  split
  · exact stepR_le hp (endR_fine hp).2.1
  · exact hp

theorem does_any (x : CallR) (g p : Nat) (s : ByteArray) (er : Int) (w : World) (hr : RdAt w g s p er) (hg : x.good w) (hp : p ≤ s.size) (hs : s.size ≤ 140737488351232) :
    Calls Try.prog 25 #[.pointer (some ⟨g, 0, none⟩), rdV s p er, callV x] w (DoesPost g s (stepD s x p er).1 (stepD s x p er).2 w) := by
  have hkk := x.kind_lt
  have h9 : x.kind = 0 ∨ x.kind = 1 ∨ x.kind = 2 ∨ x.kind = 3 ∨ x.kind = 4 ∨ x.kind = 5 ∨ x.kind = 6 ∨ x.kind = 7 ∨ x.kind = 8 := by omega
  obtain ⟨k0, l, A, c, a, n, pl⟩ := x
  have hn1 := hg.n1
  unfold stepD
  rcases h9 with h | h | h | h | h | h | h | h | h
  all_goals simp only [h]
  · exact doesPeek0_any k0 l A c a n pl g p s er w hr h hp hs
  · exact doesPeek1_any k0 l A c a n pl g p s er w hr h hp hs
  · exact doesIs_any k0 l A c a n pl g p s er w hr h hp hs hg
  · exact doesWhile_any k0 l A c a n pl g p s er w hr h hp hs hn1
  · exact doesWant_any k0 l A c a n pl g p s er w hr h hp hs hg
  · exact doesNumber_any k0 l A c a n pl g p s er w hr h hp hs hn1
  · exact doesHex_any k0 l A c a n pl g p s er w hr h hp hs hn1
  · exact doesFail_any k0 l A c a n pl g p s er w hr h
  · exact doesEnd_any k0 l A c a n pl g p s er w hr h hp hs hn1

end Go.Proofs.Ytejialnbelleeaa
