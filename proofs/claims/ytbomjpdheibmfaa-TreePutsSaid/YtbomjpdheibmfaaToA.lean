/-
  tree: the chapter's first examples.
-/
import Derived.Test.YtbomjpdheibmfaaSaA
import Derived.KernelRfl
import Derived.Test.YtbomjpdheibmfaaEf
set_option linter.unusedSimpArgs false
set_option linter.unusedVariables false
set_option maxRecDepth 100000
namespace Go.Proofs.Ytbomjpdheibmfaa
open Go Go.Ax
theorem closed_val {f n : Nat} {af : AFunc} {args : List AV} {v : AV} (h : fsT tbl f = some af) (hg : af.gc = 1) (hz : ∀ M, zH (icy 12) M args = some (args, M)) (e : (callN Try.prog (fsT tbl) 4000000 (n + 1) (.fn f) args mem0).map (·.1) = some v) (M : Mem) : callN Try.prog (fsT tbl) 4000000 (n + 1) (.fn f) args M = some (v, M) := by
  cases hc : callN Try.prog (fsT tbl) 4000000 (n + 1) (.fn f) args mem0 with
  | none => rw [hc] at e; cases e
  | some p =>
    obtain ⟨v', M'⟩ := p
    rw [hc] at e
    injection e with e
    subst e
    exact call_own h hg hc (hz mem0) (hz M)
def vR130 : List AV := [U8 1, U32 0, U8 0, I64 1, I64 3, U8 0, U32 0, U8 0, I64 0, .pv [I32 0, I32 0, I32 0] 3 (some 3) 1]
theorem r130 (M : Mem) : callN Try.prog (fsT tbl) 4000000 59 (.fn 12) [I64 1, I64 3, I64 0] M = some (.agg vR130, M) := closed_val (n := 58) tf12 rfl (fun _ => rfl) (by kernel_rfl) M
def vR411 : List AV := [U8 1, U32 0, U8 0, I64 4, I64 1, U8 1, U32 0, U8 0, I64 1, .pv [I32 0] 1 (some 1) 1]
theorem r411 (M : Mem) : callN Try.prog (fsT tbl) 4000000 59 (.fn 12) [I64 4, I64 1, I64 1] M = some (.agg vR411, M) := closed_val (n := 58) tf12 rfl (fun _ => rfl) (by kernel_rfl) M
def vR511 : List AV := [U8 1, U32 0, U8 0, I64 5, I64 1, U8 1, U32 0, U8 0, I64 1, .pv [I32 0] 1 (some 1) 1]
theorem r511 (M : Mem) : callN Try.prog (fsT tbl) 4000000 59 (.fn 12) [I64 5, I64 1, I64 1] M = some (.agg vR511, M) := closed_val (n := 58) tf12 rfl (fun _ => rfl) (by kernel_rfl) M
def vR623 : List AV := [U8 1, U32 0, U8 0, I64 6, I64 2, U8 1, U32 0, U8 0, I64 3, .pv [I32 0, I32 0] 2 (some 2) 1]
theorem r623 (M : Mem) : callN Try.prog (fsT tbl) 4000000 59 (.fn 12) [I64 6, I64 2, I64 3] M = some (.agg vR623, M) := closed_val (n := 58) tf12 rfl (fun _ => rfl) (by kernel_rfl) M
def vR120 : List AV := [U8 1, U32 0, U8 0, I64 1, I64 2, U8 0, U32 0, U8 0, I64 0, .pv [I32 0, I32 0] 2 (some 2) 1]
theorem r120 (M : Mem) : callN Try.prog (fsT tbl) 4000000 59 (.fn 12) [I64 1, I64 2, I64 0] M = some (.agg vR120, M) := closed_val (n := 58) tf12 rfl (fun _ => rfl) (by kernel_rfl) M
def vR312 : List AV := [U8 1, U32 0, U8 0, I64 3, I64 1, U8 1, U32 0, U8 0, I64 2, .pv [I32 0] 1 (some 1) 1]
theorem r312 (M : Mem) : callN Try.prog (fsT tbl) 4000000 59 (.fn 12) [I64 3, I64 1, I64 2] M = some (.agg vR312, M) := closed_val (n := 58) tf12 rfl (fun _ => rfl) (by kernel_rfl) M
def vTa : AV := .pv [U8 1, U32 0, U8 0, I64 1, I64 1, U8 0, U32 0, U8 0, I64 0, .pv [I32 0] 1 none 1, U8 1, U32 0, U8 0, I64 4, I64 1, U8 1, U32 0, U8 0, I64 1, .pv [I32 0] 1 none 1, U8 1, U32 0, U8 0, I64 2, I64 2, U8 1, U32 0, U8 0, I64 1, .pv [I32 0, I32 0] 2 none 1] 3 none 10
theorem made_a (M : Mem) : callN Try.prog (fsT tbl) 4000000 59 (.fn 11) [.pv (vR130 ++ vR411) 2 (some 2) 10] M = some (.tup [vTa, BL true], M) := closed_val (n := 58) tf11 rfl (fun _ => rfl) (by kernel_rfl) M
theorem are_a (M : Mem) : callN Try.prog (fsT tbl) 4000000 59 (.fn 13) [vTa, BL true, .pv [I64 1, I64 4, I64 2, I64 3] 4 (some 4) 1] M = some (BL true, M) := closed_val (n := 58) tf13 rfl (fun _ => rfl) (by kernel_rfl) M
def vTb : AV := .pv [U8 1, U32 0, U8 0, I64 1, I64 1, U8 0, U32 0, U8 0, I64 0, .pv [I32 0] 1 none 1, U8 1, U32 0, U8 0, I64 5, I64 1, U8 1, U32 0, U8 0, I64 1, .pv [I32 0] 1 none 1, U8 1, U32 0, U8 0, I64 4, I64 1, U8 1, U32 0, U8 0, I64 1, .pv [I32 0] 1 none 1, U8 1, U32 0, U8 0, I64 2, I64 2, U8 1, U32 0, U8 0, I64 1, .pv [I32 0, I32 0] 2 none 1, U8 1, U32 0, U8 0, I64 6, I64 2, U8 1, U32 0, U8 0, I64 3, .pv [I32 0, I32 0] 2 none 1] 5 none 10
theorem made_b (M : Mem) : callN Try.prog (fsT tbl) 4000000 59 (.fn 11) [.pv (vR130 ++ vR411 ++ vR511 ++ vR623) 4 (some 4) 10] M = some (.tup [vTb, BL true], M) := closed_val (n := 58) tf11 rfl (fun _ => rfl) (by kernel_rfl) M
theorem are_b (M : Mem) : callN Try.prog (fsT tbl) 4000000 59 (.fn 13) [vTb, BL true, .pv [I64 1, I64 5, I64 4, I64 2, I64 3, I64 6, I64 7] 7 (some 7) 1] M = some (BL true, M) := closed_val (n := 58) tf13 rfl (fun _ => rfl) (by kernel_rfl) M
def vTc : AV := .pv [U8 1, U32 0, U8 0, I64 1, I64 3, U8 0, U32 0, U8 0, I64 0, .pv [I32 0, I32 0, I32 0] 3 none 1] 1 none 10
theorem made_c (M : Mem) : callN Try.prog (fsT tbl) 4000000 59 (.fn 11) [.pv (vR120 ++ vR312) 2 (some 2) 10] M = some (.tup [vTc, BL true], M) := closed_val (n := 58) tf11 rfl (fun _ => rfl) (by kernel_rfl) M
theorem are_c (M : Mem) : callN Try.prog (fsT tbl) 4000000 59 (.fn 13) [vTc, BL true, .pv [I64 1, I64 2, I64 3] 3 (some 3) 1] M = some (BL true, M) := closed_val (n := 58) tf13 rfl (fun _ => rfl) (by kernel_rfl) M
end Go.Proofs.Ytbomjpdheibmfaa
