/-
  slices.Insert, in a program that has it at three types.
-/
import Derived.Test.YtbdmmdjomdmicaaGreatRows
import Derived.Test.YtbdmmdjomdmicaaGreatEg
import Derived.KernelRfl
set_option linter.unusedSimpArgs false
set_option linter.unusedVariables false
namespace Go.Ax
open Go
variable {P : Program}
def zI1 (P : Program) (name : String) (gs : List Nat) : Bool := (List.range P.funcs.size).all fun i => match P.funcs[i]? with
  | some fn => match fn.origin == name with
    | true => gs.any (Nat.beq i)
    | false => true
  | none => true
theorem zF8 {name : String} {gs : List Nat} {i : Nat} {fn : Func} (h : zI1 P name gs = true) (hf : P.funcs[i]? = some fn) (ho : (fn.origin == name) = true) : i ∈ gs := by
  unfold zI1 at h
  rw [List.all_eq_true] at h
  have := h i (List.mem_range.2 (Array.getElem?_eq_some_iff.1 hf).1)
  rw [hf] at this
  simp only [ho] at this
  obtain ⟨x, hx, he⟩ := List.any_eq_true.1 this
  rw [Nat.eq_of_beq_eq_true he]; exact hx
def OvlF (P : Program) (g : Nat) : Prop := ∀ fn, P.funcs[g]? = some fn → ∃ tS tR, fn.params = #[tS, tS] ∧ ∀ args w, (callFunc g args).run P w = ((Extern.SlicesOverlaps.overlaps #[tS, tS] #[tR] args).run P w).andThen fun v w' => .ok (.value v) w'
theorem zHG {g : FuncId} {fn : Func} {tS tR : TypeId} (hf : P.funcs[g]? = some fn) (hp : fn.params = #[tS, tS]) (hn : (fn.name == "runtime.NumGoroutine") = false) (hb : fn.body.isNone = true)
    (h1 : Extern.findNext fn = none) (h2 : Extern.find fn = some (Extern.SlicesOverlaps.overlaps #[tS, tS] #[tR])) : OvlF P g := by
  intro fn' hf'
  rw [hf] at hf'; cases hf'
  exact ⟨tS, tR, hp, fun args w => run_callFunc_extern hf hn hb h1 h2 args w⟩
theorem zKW {gs : List Nat} (h : zI1 P "slices.overlaps" gs = true) (hg : ∀ g ∈ gs, OvlF P g) : zJ8 P := fun g fn hf _ ho => hg g (zF8 h hf ho) fn hf
def InsF (P : Program) (g : Nat) : Prop := ∀ (fn : Func), P.funcs[g]? = some fn → ∀ (t e : TypeId) (ti : TypeInfo), fn.params[0]? = some t → P.underlying t = some (.slice e) → P.info? e = some ti →
  (fn.name == "runtime.NumGoroutine") = false ∧ (∀ c, fn.body = some c → zBQ P c = true) ∧
  ∃ O g' z tint tb, InsO O tint tb ∧ zC6 P fn = some ⟨95, insA O g' e ti.size ti.bytes z, [.tmp 6], 0⟩ ∧ ∀ q, (zA5 z q).all oneA = true ∧ (zA5 z q).length = q * ti.size
theorem zHA {g : FuncId} {fn : Func} {t0 e0 : TypeId} {ti0 : TypeInfo} {O : Nat → Oper} {g' : FuncId} {z : Value} {tint tb : TypeId} (hf : P.funcs[g]? = some fn)
    (hp : fn.params[0]? = some t0) (hu : P.underlying t0 = some (.slice e0)) (hi : P.info? e0 = some ti0) (hn : (fn.name == "runtime.NumGoroutine") = false) (hno : zNX P fn = true) (hO : InsO O tint tb)
    (hcomp : zC6 P fn = some { ntmps := 95, body := insA O g' e0 ti0.size ti0.bytes z, results := [.tmp 6] }) (hz1 : (scs z).all oneA = true) (hz2 : Nat.beq (scs z).length ti0.size = true) : InsF P g := by
  intro fn1 hf1 t e ti hp1 hu1 hi1
  rw [hf] at hf1; cases hf1
  rw [hp] at hp1; cases hp1
  rw [hu] at hu1; cases hu1
  rw [hi] at hi1; cases hi1
  refine ⟨hn, fun c hc => ?_, O, g', z, tint, tb, hO, hcomp, zRZ hz1 (Nat.eq_of_beq_eq_true hz2)⟩
  unfold zNX at hno
  rw [hc] at hno
  exact hno
theorem zHB {gs : List Nat} (h : zI1 P "slices.Insert" gs = true) (hg : ∀ g ∈ gs, InsF P g) : zGW P := fun g fn hf ho t e ti h1 h2 h3 => hg g (zF8 h hf ho) fn hf t e ti h1 h2 h3
end Go.Ax
namespace Go.Proofs.YtbdmmdjomdmicaaGreat
open Go.Ax
theorem zRU : OvlF Tryz.prog 346 :=
  zHG (tS := 411) (tR := 4) Tryz.func346 (by kernel_rfl) (by kernel_rfl) (by kernel_rfl) (by kernel_rfl) (by kernel_rfl)
theorem zOW : InsO (zFA Tryz.prog 326) 3 4 :=
  ⟨by kernel_rfl, by kernel_rfl, by kernel_rfl, by kernel_rfl, by kernel_rfl, by kernel_rfl, by kernel_rfl, by kernel_rfl, by kernel_rfl, by kernel_rfl, by kernel_rfl⟩
theorem zOV : InsF Tryz.prog 326 :=
  zHA (t0 := 411) (e0 := 443) (ti0 := (Tryz.prog.info? 443).getD default) (O := zFA Tryz.prog 326) (g' := 347)
    (z := (zeroOf Tryz.prog 443).getD default) (tint := 3) (tb := 4) Tryz.func326 (by kernel_rfl) (by kernel_rfl) (by kernel_rfl) (by kernel_rfl) (by kernel_rfl) zOW (by kernel_rfl) (by kernel_rfl) (by kernel_rfl)
theorem zPF : OvlF Tryz.prog 89 :=
  zHG (tS := 34) (tR := 4) Tryz.func89 (by kernel_rfl) (by kernel_rfl) (by kernel_rfl) (by kernel_rfl) (by kernel_rfl)
theorem zMM : InsO (zFA Tryz.prog 60) 3 4 :=
  ⟨by kernel_rfl, by kernel_rfl, by kernel_rfl, by kernel_rfl, by kernel_rfl, by kernel_rfl, by kernel_rfl, by kernel_rfl, by kernel_rfl, by kernel_rfl, by kernel_rfl⟩
theorem zMJ : InsF Tryz.prog 60 :=
  zHA (t0 := 34) (e0 := 103) (ti0 := (Tryz.prog.info? 103).getD default) (O := zFA Tryz.prog 60) (g' := 90)
    (z := (zeroOf Tryz.prog 103).getD default) (tint := 3) (tb := 4) Tryz.func60 (by kernel_rfl) (by kernel_rfl) (by kernel_rfl) (by kernel_rfl) (by kernel_rfl) zMM (by kernel_rfl) (by kernel_rfl) (by kernel_rfl)
theorem zKX : OvlF Tryz.prog 333 :=
  zHG (tS := 26) (tR := 4) Tryz.func333 (by kernel_rfl) (by kernel_rfl) (by kernel_rfl) (by kernel_rfl) (by kernel_rfl)
theorem zIW : InsO (zFA Tryz.prog 314) 3 4 :=
  ⟨by kernel_rfl, by kernel_rfl, by kernel_rfl, by kernel_rfl, by kernel_rfl, by kernel_rfl, by kernel_rfl, by kernel_rfl, by kernel_rfl, by kernel_rfl, by kernel_rfl⟩
theorem zIV : InsF Tryz.prog 314 :=
  zHA (t0 := 26) (e0 := 240) (ti0 := (Tryz.prog.info? 240).getD default) (O := zFA Tryz.prog 314) (g' := 334)
    (z := (zeroOf Tryz.prog 240).getD default) (tint := 3) (tb := 4) Tryz.func314 (by kernel_rfl) (by kernel_rfl) (by kernel_rfl) (by kernel_rfl) (by kernel_rfl) zIW (by kernel_rfl) (by kernel_rfl) (by kernel_rfl)
theorem insOK : zGV Glob.any Tryz.prog := zML
  (zKW (gs := [346, 89, 333]) (by kernel_rfl) (by
    intro g hg
    simp only [List.mem_cons, List.not_mem_nil, or_false] at hg
    rcases hg with rfl | rfl | rfl
    · exact zRU
    · exact zPF
    · exact zKX
    ))
  (zHB (gs := [326, 60, 314]) (by kernel_rfl) (by
    intro g hg
    simp only [List.mem_cons, List.not_mem_nil, or_false] at hg
    rcases hg with rfl | rfl | rfl
    · exact zOV
    · exact zMJ
    · exact zIV
    ))
end Go.Proofs.YtbdmmdjomdmicaaGreat
