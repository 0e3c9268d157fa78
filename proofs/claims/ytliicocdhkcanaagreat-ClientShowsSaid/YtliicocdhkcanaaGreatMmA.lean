/-
  Closed runs, piece by piece: calls whose results are known already.
-/
import Derived.Test.YtliicocdhkcanaaGreatEg
set_option linter.unusedSimpArgs false
set_option linter.unusedVariables false
set_option maxRecDepth 100000
namespace Go.Ax
open Go
variable {P : Program} {fs : Nat → Option AFunc} {fuel n f : Nat} {af : AFunc} {args : List AV} {v : AV}

def own1 (P : Program) (fuel : Nat) (call : Tg → List AV → Mem → Option (AV × Mem)) (af : AFunc) (args : List AV) : Option AV := match zA8 P fuel call none af.body ⟨args ++ List.replicate (af.ntmps - args.length) zA3, []⟩ mem0 with
  | some (.exit _, _, _) => none
  | some (_, fr, M') => match zF3 fr.marks M' with
    | some M' => match zAI fr.t M' af.results with
      | some us => match frzL (frz M' 0 12) us with
        | some vs => some (zC6 vs)
        | none => none
      | none => none
    | none => none
  | none => none
theorem zW2 (h : fs f = some af) (hg : af.gc = 1) (hz : ∀ M, icyL (icy 12) M args = some (args, M)) (e : own1 P fuel (zAF P fs fuel n) af args = some v) (M : Mem) : zAF P fs fuel (n + 1) (.fn f) args M = some (v, M) := by
  unfold own1 at e
  simp only [zAF, h, hg, hz, zM3]
  split at e
  · cases e
  · rename_i x fr M' he hx
    split at e
    · rename_i M2 hs
      split at e
      · rename_i us hu
        split at e
        · rename_i vs hv
          simp only [hx, hs, hu, hv]
          simp only [Option.some.injEq] at e
          rw [e]
        · cases e
      · cases e
    · cases e
  · cases e
def zPE : List (Nat × List AV × AV) → Nat → List AV → Option AV
  | [], _, _ => none
  | x :: L, f, args => match Nat.beq x.1 f with
    | true => match eqLv x.2.1 args with
      | true => some x.2.2
      | false => zPE L f args
    | false => zPE L f args
def zZF : List (Nat × List AV × AV) → Nat → Bool
  | [], _ => false
  | x :: L, f => match Nat.beq x.1 f with
    | true => true
    | false => zZF L f
def zdI (L : List (Nat × List AV × AV)) (call : Tg → List AV → Mem → Option (AV × Mem)) : Tg → List AV → Mem → Option (AV × Mem)
  | .fn f, args, M => match zZF L f with
    | false => call (.fn f) args M
    | true => match icyL (icy 12) M args with
      | some (bs, M0) => match zPE L f bs with
        | some v => some (v, M0)
        | none => call (.fn f) args M
      | none => call (.fn f) args M
  | .yl i, args, M => call (.yl i) args M
def zc0 (P : Program) (fs : Nat → Option AFunc) (fuel n : Nat) (x : Nat × List AV × AV) : Prop := (∃ af, fs x.1 = some af ∧ af.gc = 1) ∧ (∀ M, icyL (icy 12) M x.2.1 = some (x.2.1, M)) ∧ ∀ M, zAF P fs fuel n (.fn x.1) x.2.1 M = some (x.2.2, M)
def zRY (P : Program) (fs : Nat → Option AFunc) (fuel n : Nat) : List (Nat × List AV × AV) → Prop
  | [] => True
  | x :: L => zc0 P fs fuel n x ∧ zRY P fs fuel n L
theorem zHM : ∀ {L : List (Nat × List AV × AV)} {f : Nat} {args : List AV} {v : AV}, zRY P fs fuel n L → zPE L f args = some v → zc0 P fs fuel n (f, args, v)
  | [], _, _, _, _, h => by cases h
  | x :: L, f, args, v, hk, h => by
    unfold zPE at h
    split at h
    · rename_i h1
      have h1 := Nat.eq_of_beq_eq_true h1
      split at h
      · rename_i h2
        have h2 := zE2 _ _ h2
        simp only [Option.some.injEq] at h
        subst h1 h2 h
        exact hk.1
      · exact zHM hk.2 h
    · exact zHM hk.2 h
theorem zdJ {L : List (Nat × List AV × AV)} (h : zRY P fs fuel (n + 1) L) : zdI L (zAF P fs fuel (n + 1)) = zAF P fs fuel (n + 1) := by
  funext tg args M
  cases tg with
  | yl i => rfl
  | fn f =>
    show (match zZF L f with
      | false => zAF P fs fuel (n + 1) (.fn f) args M
      | true => match icyL (icy 12) M args with
        | some (bs, M0) => match zPE L f bs with
          | some v => some (v, M0)
          | none => zAF P fs fuel (n + 1) (.fn f) args M
        | none => zAF P fs fuel (n + 1) (.fn f) args M) = zAF P fs fuel (n + 1) (.fn f) args M
    cases zZF L f with
    | false => rfl
    | true =>
      cases hi : icyL (icy 12) M args with
      | none => rfl
      | some p =>
        obtain ⟨bs, M0⟩ := p
        simp only
        cases hm : zPE L f bs with
        | none => rfl
        | some v =>
          obtain ⟨⟨af, h1, h2⟩, h3, h4⟩ := zHM h hm
          exact (zDX h1 h2 (h4 mem0) (h3 mem0) hi).symm
def zL7 (P : Program) (fs : Nat → Option AFunc) (fuel : Nat) (call : Tg → List AV → Mem → Option (AV × Mem)) : Tg → List AV → Mem → Option (AV × Mem)
  | .fn f, args, M => match fs f with
    | some af => match af.gc with
      | 0 => match zA8 P fuel (call) none af.body ⟨args ++ List.replicate (af.ntmps - args.length) zA3, []⟩ M with
        | some (.exit _, _, _) => none
        | some (_, fr, M) => match zF3 fr.marks M with
          | some M => match zAI fr.t M af.results with
            | some vs => some (zC6 vs, M)
            | none => none
          | none => none
        | none => none
      | 3 => match icyL (icy 12) M args with
        | some (args, M0) => match af.body with
          | .ext g => match g args with
            | some r => some (r, M0)
            | none => none
          | _ => none
        | none => none
      | _ + 1 => match icyL (icy 12) M args with
        | some (args, M0) => match zA8 P fuel (call) none af.body ⟨args ++ List.replicate (af.ntmps - args.length) zA3, []⟩ mem0 with
          | some (.exit _, _, _) => none
          | some (_, fr, M') => match zF3 fr.marks M' with
            | some M' => match zAI fr.t M' af.results with
              | some us => match frzL (frz M' 0 12) us with
                | some vs => match zM3 af.gc (us.all (ownV M' 12)) vs M M0 with
                  | some M1 => some (zC6 vs, M1)
                  | none => none
                | none => none
              | none => none
            | none => none
          | none => none
        | none => none
    | none => none
  | .yl id, args, M => match M.get id with
    | some (.loop st pend tm ps assign body dfr) => match st with
      | .ready => match Nat.beq ps.length args.length with
        | true => match zA8 P fuel (call) (some id) assign ⟨zFI tm ps args, []⟩ M with
          | some (.normal, fr, M) => match begA M id with
            | some M => match zA8 P fuel (call) (some id) body fr M with
              | some (e, _, M) => match e with
                | .normal => match endA M id .ready none with
                  | some M => some (.sc (.bool true), M)
                  | none => none
                | e => match endA M id .done (some e) with
                  | some M => some (.sc (.bool false), M)
                  | none => none
              | none => none
            | none => none
          | _ => none
        | false => none
      | _ => none
    | _ => none
theorem zS4 (P : Program) (fs : Nat → Option AFunc) (fuel n : Nat) : zAF P fs fuel (n + 1) = zL7 P fs fuel (zAF P fs fuel n) := by
  funext tg args M
  cases tg <;> rfl
def zTV (P : Program) (fs : Nat → Option AFunc) (fuel : Nat) (L : List (Nat × List AV × AV)) (b : Nat) : Nat → Tg → List AV → Mem → Option (AV × Mem)
  | 0 => zAF P fs fuel b
  | j + 1 => zdI L (zL7 P fs fuel (zTV P fs fuel L b j))
theorem zQC {L : List (Nat × List AV × AV)} {b : Nat} : ∀ {j : Nat}, (∀ i, i < j → zRY P fs fuel (b + i + 1) L) → zTV P fs fuel L b j = zAF P fs fuel (b + j)
  | 0, _ => rfl
  | j + 1, h => by
    show zdI L (zL7 P fs fuel (zTV P fs fuel L b j)) = zAF P fs fuel (b + j + 1)
    rw [zQC fun i hi => h i (by omega), ← zS4]
    exact zdJ (n := b + j) (h j (by omega))
theorem zSW {L : List (Nat × List AV × AV)} {b j : Nat} (hk : ∀ i, i < j → zRY P fs fuel (b + i + 1) L) (h : fs f = some af) (hg : af.gc = 1) (hz : ∀ M, icyL (icy 12) M args = some (args, M)) (e : own1 P fuel (zTV P fs fuel L b j) af args = some v) (M : Mem) : zAF P fs fuel (b + j + 1) (.fn f) args M = some (v, M) := by
  rw [zQC hk] at e
  exact zW2 h hg hz e M
def Fact (P : Program) (fs : Nat → Option AFunc) (fuel K : Nat) (x : Nat × List AV × AV) : Prop := ∀ n, K ≤ n → zc0 P fs fuel n x
theorem Fact.mono {K K' : Nat} {x : Nat × List AV × AV} (h : Fact P fs fuel K x) (hk : K ≤ K') : Fact P fs fuel K' x := fun n hn => h n (Nat.le_trans hk hn)
def Facts (P : Program) (fs : Nat → Option AFunc) (fuel K : Nat) : List (Nat × List AV × AV) → Prop
  | [] => True
  | x :: L => Fact P fs fuel K x ∧ Facts P fs fuel K L
theorem Facts.known {K n : Nat} (hn : K ≤ n) : ∀ {L : List (Nat × List AV × AV)}, Facts P fs fuel K L → zRY P fs fuel n L
  | [], _ => trivial
  | _ :: _, h => ⟨h.1 n hn, Facts.known hn h.2⟩
theorem fact {L : List (Nat × List AV × AV)} {K J : Nat} (hL : Facts P fs fuel K L) (h : fs f = some af) (hg : af.gc = 1) (hz : ∀ M, icyL (icy 12) M args = some (args, M)) (e : ∀ d, own1 P fuel (zTV P fs fuel L (d + K) J) af args = some v) : Fact P fs fuel (K + J + 1) (f, args, v) := fun n hn => by
  obtain ⟨d, rfl⟩ : ∃ d, n = d + K + J + 1 := ⟨n - (K + J + 1), by omega⟩
  exact ⟨⟨af, h, hg⟩, hz, zSW (fun i _ => hL.known (by omega)) h hg hz (e d)⟩
end Go.Ax
