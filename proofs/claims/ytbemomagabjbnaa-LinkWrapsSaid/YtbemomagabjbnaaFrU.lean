/-
  Packets in frames, said without the program.
-/
import Derived.Test.YtbemomagabjbnaaFrT
set_option linter.unusedSimpArgs false
set_option linter.unusedVariables false
set_option maxRecDepth 100000
namespace Go.Proofs.Ytbemomagabjbnaa
open Go Go.Ax

theorem pkOf_bytes (p : Pk) (h : p.may = true) : pkOf p.bytes = p := by
  have hm := p.may_iff.1 h
  obtain ⟨ep, seq, ack, body⟩ := p
  simp only at hm
  have b1 := be_length ep.toNat 4
  have b2 := be_length seq.toNat 3
  have b3 := be_length ack.toNat 3
  have d1 := dec_be ep.toNat 4
  have d2 := dec_be seq.toNat 3
  have d3 := dec_be ack.toNat 3
  have e : Pk.bytes ⟨ep, seq, ack, body⟩ = be ep.toNat 4 ++ (be seq.toNat 3 ++ (be ack.toNat 3 ++ body)) := by
    simp [Pk.bytes, wr]
  rw [e]
  unfold pkOf
  have t1 : (be ep.toNat 4 ++ (be seq.toNat 3 ++ (be ack.toNat 3 ++ body))).take 4 = be ep.toNat 4 := List.take_left' b1
  have t2 : (be ep.toNat 4 ++ (be seq.toNat 3 ++ (be ack.toNat 3 ++ body))).drop 4 = be seq.toNat 3 ++ (be ack.toNat 3 ++ body) := List.drop_left' b1
  have t3 : (be ep.toNat 4 ++ (be seq.toNat 3 ++ (be ack.toNat 3 ++ body))).drop 7 = be ack.toNat 3 ++ body := by
    rw [show 7 = 4 + 3 from rfl, ← List.drop_drop, t2]; exact List.drop_left' b2
  have t4 : (be ep.toNat 4 ++ (be seq.toNat 3 ++ (be ack.toNat 3 ++ body))).drop 10 = body := by
    rw [show 10 = 7 + 3 from rfl, ← List.drop_drop, t3]; exact List.drop_left' b3
  rw [t1, t2, t3, t4, List.take_left' b2, List.take_left' b3, d1, d2, d3, Nat.mod_eq_of_lt (by omega), Nat.mod_eq_of_lt (by omega), Nat.mod_eq_of_lt (by omega)]
  congr 1 <;> omega
theorem bytes_pkOf (x : List UInt8) (h : 10 ≤ x.length) : (pkOf x).bytes = x := by
  unfold Pk.bytes pkOf
  simp only [Int.toNat_natCast]
  have b1 := be_dec (x.take 4)
  have b2 := be_dec ((x.drop 4).take 3)
  have b3 := be_dec ((x.drop 7).take 3)
  rw [show (x.take 4).length = 4 by simp; omega] at b1
  rw [show ((x.drop 4).take 3).length = 3 by simp; omega] at b2
  rw [show ((x.drop 7).take 3).length = 3 by simp; omega] at b3
  simp only [wr, List.flatMap_cons, List.flatMap_nil, b1, b2, b3, List.append_nil, List.append_assoc]
  have e1 : (x.drop 7).take 3 ++ x.drop 10 = x.drop 7 := by rw [show x.drop 10 = (x.drop 7).drop 3 by rw [List.drop_drop], List.take_append_drop]
  have e2 : (x.drop 4).take 3 ++ x.drop 7 = x.drop 4 := by rw [show x.drop 7 = (x.drop 4).drop 3 by rw [List.drop_drop], List.take_append_drop]
  rw [e1, e2, List.take_append_drop]
theorem unwrap_wrap (p : Pk) (h : p.may = true) : unwrapM (frameL p.bytes) = (p, 0) := by
  have hm := p.may_iff.1 h
  have hl := p.bytes_len
  unfold unwrapM
  rw [openL_frame _ (by omega)]
  show unwrapB p.bytes = _
  unfold unwrapB
  rw [if_neg (by omega), pkOf_bytes p h, if_pos h]
theorem unwrap_ok (b : List UInt8) : ((unwrapM b).2 = 0 ∧ (unwrapM b).1.may = true ∧ frameL (unwrapM b).1.bytes = b) ∨ (((unwrapM b).2 = 80 ∨ (unwrapM b).2 = 90) ∧ (unwrapM b).1 = pk0) := by
  unfold unwrapM
  cases ho : openL b with
  | none => exact .inr ⟨.inl rfl, rfl⟩
  | some x =>
    have := (openL_some ho).2
    show ((unwrapB x).2 = 0 ∧ (unwrapB x).1.may = true ∧ frameL (unwrapB x).1.bytes = b) ∨ (((unwrapB x).2 = 80 ∨ (unwrapB x).2 = 90) ∧ (unwrapB x).1 = pk0)
    unfold unwrapB
    by_cases h10 : x.length < 10
    · rw [if_pos h10]; exact .inr ⟨.inr rfl, rfl⟩
    · rw [if_neg h10]
      by_cases hm : (pkOf x).may = true
      · rw [if_pos hm]
        exact .inl ⟨rfl, hm, by rw [bytes_pkOf x (by omega)]; exact this⟩
      · rw [if_neg hm]; exact .inr ⟨.inr rfl, rfl⟩
theorem frame_len (p q : Pk) (hp : p.may = true) (h : p.body.length = q.body.length) : (frameL p.bytes).length = (frameL q.bytes).length := by
  have hm := p.may_iff.1 hp
  have h1 := p.bytes_len
  have h2 := q.bytes_len
  rw [frameL_length _ (by omega), frameL_length _ (by omega), h1, h2, h]
end Go.Proofs.Ytbemomagabjbnaa
