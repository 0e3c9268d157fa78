/-
  frame.Seal: what a call returns.
-/
import Derived.Test.YtgdcpgmbmppfgaaFrame
import Derived.Test.YtgdcpgmbmppfgaaZeros
namespace Go.Proofs.Ytgdcpgmbmppfgaa
open Go.RowKit

def sealB (body : List UInt8) : List UInt8 := if body.length ≤ 1000 then frameL body else []
def sealC (body : List UInt8) : Int := if body.length ≤ 1000 then 0 else 4
/-- What 'Seal' leaves. -/
def SealPost (w : World) (body : List UInt8) (e : Ending) (w' : World) : Prop :=
  ∃ v, e = .returned (.tuple #[v, .int .i64 (sealC body)]) ∧ w'.ownsRow w.heap.size 5 1 v (sealB body).length ((sealB body).map B8) ∧ Below w.heap.size w w'

theorem ownsRow_some {w : World} {base : Nat} {e : TypeId} {sz : Nat} {v : Value} {n : Nat} {xs : List Value} (h : w.ownsRow base e sz v n xs) (hn : 0 < n) :
    ∃ g cap, v = .slice (some ⟨g, 0, none⟩) n cap ∧ base ≤ g ∧ g < w.heap.size ∧ n ≤ cap ∧ cap ≤ maxLen := by
  rcases id h.2 with ⟨_, h0⟩ | ⟨g, cap, cur, rfl, hb, hg, hn, hc, _⟩
  · omega
  · exact ⟨g, cap, rfl, hb, (h.lt g rfl).2, hn, hc⟩

set_option maxHeartbeats 2000000 in
set_option maxRecDepth 100000 in
theorem seal_any (v : Value) (l : List UInt8) (w : World) (hr : RdB w.heap.size w v l) (hl : l.length ≤ 1000000) :
    Calls Try.prog 9 #[v] w (SealPost w l) := by
  obtain ⟨ao, cap, rfl, hr⟩ := hr
  by_cases h : l.length ≤ 1000
  · obtain ⟨i5, hi, hz0, hz1, hz2⟩ := info_parts info_u8
    have h1 := Lib.hid (show sealB l = frameL l from if_pos h)
    have h2 := Lib.hid (show sealC l = 0 from if_pos h)
    have C1 := class_any (l.length : Int) w
    rw [show classN (l.length : Int) = classM l.length by rw [classN, if_neg (by omega), Int.toNat_natCast], show classC (l.length : Int) = 0 from if_neg (by omega)] at C1
    have C2 := fun wx => put_any (l.length : Int) wx
    unfold PutPost at C2
    rw [show putC (l.length : Int) = 0 from if_neg (by unfold badN; omega), show putB (l.length : Int) = putL l.length from (if_neg (by unfold badN; omega)).trans (by rw [Int.toNat_natCast])] at C2
    have hge := classM_ge l.length h
    have hle := classM_le l.length
    have hcc := classM_cases l.length
    have hsm := putL_small l.length h
    have hfr : frameL l = (181 :: putL l.length) ++ l ++ List.replicate (classM l.length - 3 - (1 + (putL l.length).length + l.length)) 0 ++ sumB (sumOf ((181 :: putL l.length) ++ l ++ List.replicate (classM l.length - 3 - (1 + (putL l.length).length + l.length)) 0)) := by
      rw [frameL, bareL, headL_length]; rfl
    have HF := Lib.hid hfr; have H1 := Lib.hid C1; have H2 := Lib.hid C2; have HR := Lib.hid hr
    have hsum := fun q : List UInt8 => sumOf_lt q
    have HSUM := Lib.hid hsum
    clear C1 C2 hfr hr hsum
    generalize classM l.length = cm at *
    generalize putL l.length = pl at *
    go_enter Try.func9, Try.ntmps9
    go_wp2_with (fail)
    refine H1.out.mono ?_
    rintro e w1 ⟨rfl, b1⟩
    go_wp2_with (fail)
    refine (H2.out _).mono ?_
    rintro e w2 ⟨x, rfl, hx, b2⟩
    have b02 := b1.next b2
    obtain ⟨xo, xc, rfl, hxr⟩ := RdB.own hx
    have hxr2 := hxr.alloc (Nat.le_refl _) (.cells #[.int .u8 181] 5)
    have ho := World.ownsRow_lit (base := w.heap.size) (size := 1) (e := 5) w2 #[.int .u8 181] 1 b02.size (by decide) rfl
    clear hx hxr
    go_wp2_with (first
      | (at_builtin; refine wpList_append_rd rfl (.tmp 24) (.tmp 25) 23 rfl w.heap.size 5 i5 (.int .u8 0) 1 1 Try.underlying23 hi hz0 hz1 hz2 rfl (by decide) _ _ _ rfl ho rfl hxr2 (bytes_one _) (by unfold maxLen; omega) (by omega) (by simp; have := b02.size; omega) ?_; intro v3 w3 ho3 hg3; obtain ⟨g3, c3, rfl, hbg3, hlt3, hnc3, hcm3⟩ := ownsRow_some ho3 (by omega); have b03 : Below w.heap.size w w3 := (b02.alloc b02.size _).grown hg3 (by simp; have := b02.size; omega) (fun j hj => by cases hj; exact b02.size))
      | (at_builtin; refine wpList_append_own_zeros rfl (.tmp 29) (.tmp 33) 23 3 rfl w.heap.size 5 i5 (.int .u8 0) 1 .i64 .i64 Try.underlying23 Try.underlying3 hi hz0 hz1 hz2 rfl rfl g3 _ c3 _ rfl ho3 (cm - 3 - (1 + pl.length)) _ rfl (by omega) (by omega) (by unfold maxLen; omega) (by omega) b03.size ?_; intro v4 w4 ho4 hg4; obtain ⟨g4, c4, rfl, hbg4, hlt4, hnc4, hcm4⟩ := ownsRow_some ho4 (by omega); have b04 : Below w.heap.size w w4 := b03.grown hg4 b03.size (fun j hj => by cases hj; exact hbg3))
      | ((with_reducible show wpList _ _ _ (⟨some 39, _, _, _, _, _⟩ :: _) _ _); refine wpList_copy_rd rfl (.tmp 37) (.tmp 38) 23 23 rfl 5 Try.underlying23 (by kernel_rfl) (some ⟨g4, 1 + pl.length, none⟩) _ _ rfl rfl ho4 (HR.out.below b04) (bytes_one _) (off := 1 + pl.length) (fun _ => rfl) (by omega) (by omega) w.heap.size w b04 hbg4 ?_; intro w5 ho5 b05)
      | fail)
    obtain ⟨q, hq⟩ : ∃ q, q = (181 :: pl) ++ l ++ List.replicate (cm - 3 - (1 + pl.length + l.length)) 0 := ⟨_, rfl⟩
    have hql : q.length = 1 + pl.length + (cm - 3 - (1 + pl.length)) := by rw [hq]; simp <;> omega
    have hcells : List.take (1 + pl.length) ([Value.int .u8 181] ++ List.map B8 pl ++ List.replicate (cm - 3 - (1 + pl.length)) (Value.int .u8 0)) ++ List.map B8 l ++ List.drop (1 + pl.length + l.length) ([Value.int .u8 181] ++ List.map B8 pl ++ List.replicate (cm - 3 - (1 + pl.length)) (Value.int .u8 0)) = q.map B8 := by
      have e1 : [Value.int .u8 181] ++ List.map B8 pl = (181 :: pl).map B8 := by simp [B8]
      have e2 : (1 + pl.length) = ((181 :: pl).map B8).length := by simp <;> omega
      rw [hq, e1, List.map_append, List.map_append, e2, List.take_left, ← List.drop_drop, List.drop_left, ← e2, List.drop_replicate]
      simp only [List.map_replicate]
      congr 2
      omega
    have hq5 := RdB.owned q ho5 hcells
    rw [hcells] at ho5
    have hqs := HSUM.out q
    have HQ := Lib.hid hq; have HQL := Lib.hid hql
    have hql2 : q.length ≤ 1024 := by rw [hql]; omega
    have HC := Lib.hid hcells
    clear hq hql hcells ho4 hg4 ho3 hg3 hxr2 ho b1 b2 b02 b03 b04
    refine (sumOf_any _ q _ _ hq5 (by omega)).mono ?_
    rintro e w6 ⟨rfl, rfl⟩
    go_wp2_with (fail)
    refine (sumBytes_any _ _ hqs).mono ?_
    rintro e w7 ⟨x, rfl, hx, b7⟩
    obtain ⟨yo, yc, rfl, hyr⟩ := RdB.own hx
    have b07 := b05.next b7
    have ho7 : w7.ownsRow w.heap.size 5 1 (.slice (some ⟨g4, 0, none⟩) (1 + pl.length + (cm - 3 - (1 + pl.length))) c4) (1 + pl.length + (cm - 3 - (1 + pl.length))) (q.map B8) := ownsRow_below ho5 b7
    go_wp2_with (at_builtin; refine wpList_append_rd rfl (.tmp 40) (.tmp 43) 23 rfl w.heap.size 5 i5 (.int .u8 0) 1 1 Try.underlying23 hi hz0 hz1 hz2 rfl (by decide) _ _ _ rfl ho7 rfl hyr (bytes_one _) (by simp [sumB, maxLen] <;> omega) (by simp [sumB] <;> omega) b07.size ?_; intro v8 w8 ho8 hg8)
    have b08 : Below w.heap.size w w8 := b07.grown hg8 b07.size (fun j hj => by cases hj; exact hbg4)
    go_ret2
    unfold SealPost
    rw [h1.out, h2.out]
    refine ⟨_, rfl, ?_, b08⟩
    have hfin : frameL l = q ++ sumB (sumOf q) := by rw [HF.out, HQ.out]
    rw [hfin, List.length_append, List.map_append, HQL.out]
    exact ho8
  · have h1 := Lib.hid (show sealB l = [] from if_neg h)
    have h2 := Lib.hid (show sealC l = 4 from if_neg h)
    have C1 := class_any (l.length : Int) w
    rw [show classN (l.length : Int) = 0 from if_pos (by omega), show classC (l.length : Int) = 4 from if_pos (by omega)] at C1
    have H1 := Lib.hid C1
    clear C1 hr h
    go_enter Try.func9, Try.ntmps9
    go_wp2_with (fail)
    refine H1.out.mono ?_
    rintro e w1 ⟨rfl, b1⟩
    go_wp2_with (fail)
    go_ret2
    unfold SealPost
    rw [h1.out, h2.out]
    exact ⟨_, rfl, World.ownsRow_nil _ _ _ _, b1⟩
end Go.Proofs.Ytgdcpgmbmppfgaa
