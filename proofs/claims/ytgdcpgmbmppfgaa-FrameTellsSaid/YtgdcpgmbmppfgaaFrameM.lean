/-
  Frames, said without the program.
-/
import Derived.Test.YtgdcpgmbmppfgaaSumM
namespace Go.Proofs.Ytgdcpgmbmppfgaa

def classM (n : Nat) : Nat := if 1 + (putL n).length + n + 3 ≤ 64 then 64 else if 1 + (putL n).length + n + 3 ≤ 256 then 256 else 1024
def headL (body : List UInt8) : List UInt8 := 181 :: putL body.length
/-- What stands ahead of a frame's sum. -/
def bareL (body : List UInt8) : List UInt8 := headL body ++ body ++ List.replicate (classM body.length - 3 - ((headL body).length + body.length)) 0
def frameL (body : List UInt8) : List UInt8 := bareL body ++ sumB (sumOf (bareL body))

theorem putL_small (n : Nat) (h : n ≤ 1000) : (putL n).length ≤ 3 := by
  rw [putL_len]; split
  · omega
  · have := fol_le 1 n (by omega); omega
theorem classM_ge (n : Nat) (h : n ≤ 1000) : 1 + (putL n).length + n + 3 ≤ classM n := by
  have := putL_small n h
  unfold classM; split
  · assumption
  · split
    · assumption
    · omega
theorem classM_le (n : Nat) : classM n ≤ 1024 := by unfold classM; split <;> (try split) <;> omega
theorem classM_cases (n : Nat) : classM n = 64 ∨ classM n = 256 ∨ classM n = 1024 := by unfold classM; split <;> (try split) <;> simp
theorem headL_length (body : List UInt8) : (headL body).length = 1 + (putL body.length).length := by simp [headL]; omega
theorem bareL_length (body : List UInt8) (h : body.length ≤ 1000) : (bareL body).length = classM body.length - 3 := by
  have h1 := classM_ge _ h
  have h2 := headL_length body
  simp only [bareL, List.length_append, List.length_replicate]
  omega
theorem frameL_length (body : List UInt8) (h : body.length ≤ 1000) : (frameL body).length = classM body.length := by
  have h1 := classM_ge _ h
  have h2 := bareL_length body h
  simp only [frameL, List.length_append, sumB, List.length_cons, List.length_nil]; omega
theorem frameL_sum (body : List UInt8) : sumOf (frameL body) = 0 := by
  unfold frameL
  generalize bareL body = p
  have := (right_iff p (UInt8.ofNat (sumOf p / 65536)) (UInt8.ofNat (sumOf p / 256)) (UInt8.ofNat (sumOf p))).1 rfl
  exact this

/-- What a frame has. -/
def openL (b : List UInt8) : Option (List UInt8) :=
  let g := getM (b.drop 1)
  if g.2.2 = 0 ∧ ((b.drop (1 + g.2.1.toNat)).take g.1.toNat).length ≤ 1000 ∧ frameL ((b.drop (1 + g.2.1.toNat)).take g.1.toNat) = b then some ((b.drop (1 + g.2.1.toNat)).take g.1.toNat) else none

theorem openL_some {b body : List UInt8} (h : openL b = some body) : body.length ≤ 1000 ∧ frameL body = b := by
  unfold openL at h
  simp only at h
  split at h
  · rename_i hc
    cases h
    exact ⟨hc.2.1, hc.2.2⟩
  · cases h
theorem openL_frame (body : List UInt8) (h : body.length ≤ 1000) : openL (frameL body) = some body := by
  have hg : getM ((frameL body).drop 1) = ((body.length : Int), ((putL body.length).length : Int), 0) := by
    have e : (frameL body).drop 1 = putL body.length ++ (body ++ List.replicate (classM body.length - 3 - ((headL body).length + body.length)) 0 ++ sumB (sumOf (bareL body))) := by
      simp [frameL, bareL, headL]
    rw [e]
    exact getM_put _ (by omega) _
  have hb : ((frameL body).drop (1 + (putL body.length).length)).take body.length = body := by
    have e : frameL body = headL body ++ (body ++ (List.replicate (classM body.length - 3 - ((headL body).length + body.length)) 0 ++ sumB (sumOf (bareL body)))) := by
      simp [frameL, bareL]
    rw [e, ← headL_length, List.drop_left, List.take_left]
  unfold openL
  rw [hg]
  simp only [Int.toNat_natCast, hb]
  simp [h]
theorem openL_iff (b body : List UInt8) : openL b = some body ↔ body.length ≤ 1000 ∧ frameL body = b := by
  constructor
  · exact openL_some
  · rintro ⟨h, rfl⟩; exact openL_frame body h
theorem openL_none_of {b : List UInt8} (h : ∀ body : List UInt8, body.length ≤ 1000 → frameL body ≠ b) : openL b = none := by
  cases ho : openL b with
  | none => rfl
  | some body => exact absurd (openL_some ho).2 (h body (openL_some ho).1)
theorem openL_len {b body : List UInt8} (h : openL b = some body) : b.length = 64 ∨ b.length = 256 ∨ b.length = 1024 := by
  have h1 := openL_some h
  rw [← h1.2, frameL_length _ h1.1]
  exact classM_cases _

/-- As the program asks: the sum first, then whether there is room. -/
theorem openL_wrong (b : List UInt8) (h : sumOf b ≠ 0) : openL b = none := by
  refine openL_none_of fun body _ he => h ?_
  rw [← he]; exact frameL_sum body

def openB (l : List UInt8) : List UInt8 := (openL l).getD []
def openC (l : List UInt8) : Int := if (openL l).isSome then 0 else 80
theorem openL_short (l : List UInt8) (h : l.length < 64) : openL l = none := by
  cases ho : openL l with
  | none => rfl
  | some b => have := openL_len ho; omega
theorem openL_bad (l : List UInt8) (h : getM (l.drop 1) = (0, 0, 8)) : openL l = none := by
  unfold openL; rw [h]; simp
theorem openL_get {l body : List UInt8} (h : openL l = some body) : getM (l.drop 1) = ((body.length : Int), ((putL body.length).length : Int), 0) ∧ l.length = classM body.length ∧ body.length ≤ 1000 := by
  have h1 := openL_some h
  refine ⟨?_, by rw [← h1.2]; exact frameL_length _ h1.1, h1.1⟩
  have e : l.drop 1 = putL body.length ++ (body ++ List.replicate (classM body.length - 3 - ((headL body).length + body.length)) 0 ++ sumB (sumOf (bareL body))) := by
    rw [← h1.2]; simp [frameL, bareL, headL]
  rw [e]
  exact getM_put _ (by omega) _
theorem openL_far (l : List UInt8) (n s : Nat) (hg : getM (l.drop 1) = ((n : Int), (s : Int), 0)) (h : l.length < 1 + s + n + 3) : openL l = none := by
  cases ho : openL l with
  | none => rfl
  | some b =>
    obtain ⟨h1, h2, h3⟩ := openL_get ho
    rw [hg] at h1
    simp only [Prod.mk.injEq, Int.natCast_inj, and_true] at h1
    have := classM_ge b.length h3
    omega
theorem openL_near (l : List UInt8) (n s : Nat) (hg : getM (l.drop 1) = ((n : Int), (s : Int), 0)) (h : 1 + s + n + 3 ≤ l.length) :
    openL l = if n ≤ 1000 ∧ frameL ((l.drop (1 + s)).take n) = l then some ((l.drop (1 + s)).take n) else none := by
  have hl : ((l.drop (1 + s)).take n).length = n := by simp; omega
  unfold openL
  rw [hg]
  simp only [Int.toNat_natCast, hl, true_and]

theorem openL_odd (l : List UInt8) (h : l.length ≠ 64 ∧ l.length ≠ 256 ∧ l.length ≠ 1024) : openL l = none := by
  cases ho : openL l with
  | none => rfl
  | some b => have := openL_len ho; omega
theorem openL_big (l : List UInt8) (n s : Nat) (hg : getM (l.drop 1) = ((n : Int), (s : Int), 0)) (h : 1000 < n) : openL l = none := by
  cases ho : openL l with
  | none => rfl
  | some b =>
    obtain ⟨h1, h2, h3⟩ := openL_get ho
    rw [hg] at h1
    simp only [Prod.mk.injEq, Int.natCast_inj, and_true] at h1
    omega
theorem openL_near2 (l : List UInt8) (n s : Nat) (hg : getM (l.drop 1) = ((n : Int), (s : Int), 0)) (hn : n ≤ 1000) (h : 1 + s + n ≤ l.length) :
    openL l = if frameL ((l.drop (1 + s)).take n) = l then some ((l.drop (1 + s)).take n) else none := by
  have hl : ((l.drop (1 + s)).take n).length = n := by simp; omega
  unfold openL
  rw [hg]
  simp only [Int.toNat_natCast, hl, true_and, hn]
theorem openL_far2 (l : List UInt8) (n s : Nat) (hg : getM (l.drop 1) = ((n : Int), (s : Int), 0)) (h : l.length < 1 + s + n) : openL l = none := openL_far l n s hg (by omega)

end Go.Proofs.Ytgdcpgmbmppfgaa
