/-
  appz: bytes of nought behind a slice of ours.
-/
import Derived.Test.YtidkemgkejbalaaFrI
set_option linter.unusedSimpArgs false
set_option linter.unusedVariables false
set_option maxRecDepth 100000
namespace Go.Proofs.Ytidkemgkejbalaa
open Go Go.Ax

def appzO (M : Mem) (st bytes : Nat) (z : Value) (x : AV) (n : Option Nat) : OR := match n, cellsOf M x with
    | some n, some old => appendA M x old (repCells z n) n st bytes
    | _, _ => none
theorem x_appz {P : Program} (call : Tg → List AV → Mem → OR) (t : List AV) (M : Mem) (e : TypeId) (st bytes : Nat) (z : Value) (x n : Operand) : execOpA P call t M (.appz e st bytes z x n) = appzO M st bytes z (evalA t x) (natOf (evalA t n)) := rfl
theorem rep_flat (n : Nat) : (List.replicate n [U8 0]).flatten = List.replicate n (U8 0) := by
  induction n with
  | zero => rfl
  | succ n ih => rw [List.replicate_succ, List.flatten_cons, ih]; rfl
theorem rep_all2 (n : Nat) : All2 isU8 (List.replicate n [U8 0]) (List.replicate n 0) := by
  induction n with
  | zero => exact .nil
  | succ n ih => rw [List.replicate_succ, List.replicate_succ]; exact .cons rfl ih
theorem appz_ok {M : Mem} {a : AV} {l : List UInt8} (h : SlM M 1 isU8 a l) (wf : Wf M) (n : Nat) (hn : l.length + n ≤ 4294967296) :
    ∃ a' M', appzO M 1 1 (.int .u8 0) a (some n) = some (a', M') ∧ SlM M' 1 isU8 a' (l ++ List.replicate n 0) ∧ Wf M' ∧ M.size ≤ M'.size := by
  obtain ⟨a', M', ⟨old, ho, hap⟩, hS, wf', hle, _⟩ := h.app wf (new := List.replicate n [U8 0]) (l' := List.replicate n 0) (bytes := 1) (rep_all2 n) (fun r hr => by rw [(List.mem_replicate.1 hr).2]; rfl) (cel_U8.all (rep_all2 n)) (by omega) (by rw [List.length_replicate]; omega) (by rw [List.length_replicate]; omega)
  refine ⟨a', M', ?_, hS, wf', hle⟩
  rw [rep_flat, List.length_replicate] at hap
  unfold appzO
  simp only [ho, rep_u8, hap]

def cpyO (M : Mem) (st : Nat) (x y : AV) : OR := match lenA x, lenA y with
    | some lx, some ly =>
      match firstA M (Nat.min ly lx) st y with
      | some new => match x with
        | .sc (.slice none 0 0) => some (.sc (goInt 0), M)
        | .sl id off _ _ _ => match M.get id with
          | some (.row str cs) => match Nat.ble (off + new.length) cs.length && new.all oneA with
            | true => match M.put id (.row str (lay cs off new)) with
              | some M => some (.sc (goInt (Nat.min ly lx)), M)
              | none => none
            | false => none
          | _ => none
        | _ => none
      | none => none
    | _, _ => none
theorem x_cpy {P : Program} (call : Tg → List AV → Mem → OR) (t : List AV) (M : Mem) (st : Nat) (x y : Operand) : execOpA P call t M (.cpy st x y) = cpyO M st (evalA t x) (evalA t y) := by
  simp only [execOpA, cpyO]
  cases evalA t x <;> rfl
/-- Bytes that are frozen, laid into a row of ours where there is room for all of them. -/
theorem cpy_ok {M : Mem} (wf : Wf M) {id off n : Nat} {cap : Option Nat} {cs : List AV} {y : AV} {l : List UInt8} (hg : M.get id = some (.row false cs)) (hy : Bs y l) (hn : l.length ≤ n) (hc : off + l.length ≤ cs.length) :
    ∃ k, cpyO M 1 (.sl id off n cap 1) y = some (.sc (goInt k), M.upd id (.row false (lay cs off (u8s l)))) := by
  refine ⟨Nat.min l.length n, ?_⟩
  have hm : Nat.min l.length n = l.length := Nat.min_eq_left hn
  have hf : firstA M l.length 1 y = some (u8s l) := by
    rcases bs_form hy with ⟨rfl, rfl⟩ | ⟨cap, rfl⟩
    · rfl
    · simp only [firstA, Nat.beq_refl, Nat.ble_eq_true_of_le (Nat.le_refl _), Bool.and_self]
      rw [List.take_of_length_le (by rw [u8s_len]; omega)]
  have hly : lenA y = some l.length := by obtain ⟨_, _, h, _⟩ := hy.open; exact h
  have hlx : lenA (.sl id off n cap 1) = some n := rfl
  have hb : Nat.ble (off + (u8s l).length) cs.length = true := Nat.ble_eq_true_of_le (by rw [u8s_len]; exact hc)
  unfold cpyO
  simp only [hlx, hly, hm, hf, hg, hb, u8s_one, Bool.and_self, put_upd wf (Mem.get_lt hg)]
end Go.Proofs.Ytidkemgkejbalaa
