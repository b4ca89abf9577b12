/- The groups, as they are asked. -/
import Derived.Test.YtbbogkcfngpbbaaCaG3
import Derived.Test.YtbbogkcfngpbbaaCaC
namespace Go.Proofs.Ytbbogkcfngpbbaa
open Go.RowKit

theorem info_rowH : (Try.prog.info? 22).map (fun i => (i.zero, i.size, i.bytes)) = some (some (.slice none 0 0), 1, 24) := by kernel_rfl

/-- Behind a function that makes a row of rows. -/
def GivesG (w : World) (ls : List (List Nat)) (e : Ending) (w' : World) : Prop :=
  ∃ v, e = .returned v ∧ GrpI w' w.heap.size v ls ∧ Below w.heap.size w w'

theorem GrpI.slice {w : World} {H : Nat} {gv : Value} {ls : List (List Nat)} (h : GrpI w H gv ls) : ∃ ao cap, gv = .slice ao ls.length cap := by
  obtain ⟨vals, _, h2, _⟩ := h.ex; exact ownsRow_slice h2

/-- One of the groups. -/
theorem GrpI.at_ {w : World} {H cap : Nat} {ao : Option Addr} {ls : List (List Nat)} (h : GrpI w H (.slice ao ls.length cap) ls) {j : Nat} {l : List Nat} (hl : ls[j]? = some l) :
    ∃ g al cl, ao = some ⟨g, 0, none⟩ ∧ g < w.heap.size ∧ w.cell? ⟨g, j, none⟩ = some (.slice al l.length cl) ∧ w.ownsRow H 3 1 (.slice al l.length cl) l.length (l.flatMap encN) := by
  obtain ⟨vals, h1, h2, h3⟩ := h.ex
  have hj := (List.getElem?_eq_some_iff.1 hl).1
  obtain ⟨v, hv⟩ : ∃ v, vals[j]? = some v := ⟨_, List.getElem?_eq_getElem (by omega)⟩
  obtain ⟨q1, _⟩ := h3 j v l hv hl
  obtain ⟨al, cl, rfl⟩ := ownsRow_slice q1
  obtain ⟨g, e, hg, hc⟩ := ownsRow_get h2 hv
  exact ⟨g, al, cl, e, hg, hc, q1⟩

set_option maxRecDepth 100000 in
set_option maxHeartbeats 4000000 in
theorem groups_calls (w : World) (N G n DN UP ST RE GP H : Nat) (gv : Value) (tag : Nat → Nat) (d u : Nat → List Nat) (s : Nat → List (Nat × Nat)) (r : Nat → List Bool) (gi : Nat → Int) (ls : List (List Nat)) (hg : GM w N G n DN UP ST RE GP gv tag d u s r gi) (hr : GrpI w H gv ls)
    (hl : ls.length ≤ 70) (hll : ∀ l ∈ ls, l.length ≤ 70) : Calls Try.prog 39 #[.pointer (some ⟨G, 0, none⟩)] w (GivesG w ls) := by
  obtain ⟨ao, cap, rfl⟩ := hr.slice
  obtain ⟨_, _, _, _, c4, _⟩ := hg.cells
  obtain ⟨B, hB⟩ : ∃ B, w.heap.size = B := ⟨_, rfl⟩
  have HR : Hid (∀ W, Below B w W → GrpI W H (.slice ao ls.length cap) ls) := fun W hW => hr.below (by rw [hB]; exact hW)
  have HLL := Lib.hid hll
  clear hg hr hll
  have HB := Lib.hid hB
  go_enter Try.func39, Try.ntmps39
  go_wp2_with fail
  go_loopw [2, 12] (fun v c wr => ∃ j : Nat, j ≤ ls.length ∧ c = .int .i64 (j : Int) ∧ GrpI wr B v (ls.take j) ∧ Below B w wr) (fun _ c _ => ls.length - (intOf c).toNat)
  case atStart => exact ⟨0, Nat.zero_le _, rfl, GrpI.nil _ _, Below.refl _ _⟩
  case round =>
    obtain ⟨j, hj, rfl, hgr, hb⟩ := hrel
    have hsz := hb.size
    by_cases hjl : j < ls.length
    · have hjI : (j : Int) < (ls.length : Int) := by omega
      obtain ⟨l, hlj⟩ : ∃ l, ls[j]? = some l := ⟨_, List.getElem?_eq_getElem hjl⟩
      obtain ⟨g, al, cl, rfl, hgs, hc, hol⟩ := (HR.out wr hb).at_ hlj
      have hl70 := HLL.out l (List.mem_of_getElem? hlj)
      have HCL := Lib.hid (cloneN_calls wr (.slice al l.length cl) l.length (l.flatMap encN) H hol (oneN l) (by omega))
      obtain ⟨vals, v1, v2, v3⟩ := hgr.ex
      obtain ⟨ao2, cap2, hv⟩ := ownsRow_slice v2
      subst hv
      have htl : (ls.take j).length = j := by rw [List.length_take]; omega
      have htk : ls.take (j + 1) = ls.take j ++ [l] := by rw [List.take_add_one, hlj]; rfl
      rw [htl] at v1 v2 v3 hgr
      have HGR := Lib.hid hgr
      have HV3 := Lib.hid v3
      have HV1 := Lib.hid v1
      have HV2 := Lib.hid v2
      have HBW := Lib.hid hb
      have HTK := Lib.hid htk
      have HTL := Lib.hid htl
      obtain ⟨i0, hi0, hi1, hi2, hi3⟩ := info_parts info_rowH
      clear hgr hb v1 v2 v3 hol hlj htk htl
      go_wp2_with fail
      go_at_call 79
      refine HCL.out.mono ?_
      rintro e w2 ⟨vc, rfl, hown2, hb2⟩
      obtain ⟨aoc, capc, rfl⟩ := ownsRow_slice hown2
      have hs2 := hb2.size
      have hx2 : Ext (fun _ => False) wr w2 := Ext.of_below_size hb2
      have HV22 : Hid (w2.ownsRow B 22 1 (.slice ao2 j cap2) j vals) := ownsRow_ext HV2.out hx2 (fun _ _ h => h)
      have HGR2 : Hid (GrpI w2 B (.slice ao2 j cap2) (ls.take j)) := HGR.out.ext hx2 (fun _ _ _ h => h)
      have HOC := Lib.hid hown2
      have HB2 := Lib.hid hb2
      have HK : Hid (∀ (g5 cap5 : Nat) (w5 : World), w5.ownsRow B 22 1 (.slice (some ⟨g5, 0, none⟩) (j + 1) cap5) (j + 1) (vals ++ [.slice aoc l.length capc]) → (w2.alloc (.cells #[.slice aoc l.length capc] 22)).grownBy w5 (Value.slice ao2 j cap2).ownBlock →
          ((Value.slice ao2 j cap2).ownBlock = some g5 ∨ g5 = (w2.alloc (.cells #[.slice aoc l.length capc] 22)).heap.size) → GrpI w5 B (.slice (some ⟨g5, 0, none⟩) (j + 1) cap5) (ls.take (j + 1)) ∧ Below B w w5) := by
        intro g5 cap5 w5 h1 h2 h3
        have hA : Ext (fun _ => False) w2 (w2.alloc (.cells #[.slice aoc l.length capc] 22)) := (Ext.refl _ _).alloc _
        refine ⟨?_, ?_⟩
        · rw [HTK.out]
          refine GrpI.app HGR2.out (ownsRow_base HOC.out (fun k hk => by have := (HOC.out.lt k hk).1; omega)) (fun k hk hk' => by
            have := (HOC.out.lt k hk).1
            have := (HV2.out.lt k hk').2
            omega) hA h2 vals (by rw [HTL.out]; exact HV1.out) (fun a v m h4 h5 => ?_) (by rw [HTL.out]; exact h1) (fun k hk => by
            have e : some g5 = some k := hk
            obtain rfl := Option.some.inj e
            rcases h3 with h | h
            · exact .inl h
            · right; omega)
          obtain ⟨q1, q2⟩ := HV3.out a v m h4 h5
          exact ⟨ownsRow_ext q1 hx2 (fun _ _ h => h), q2⟩
        · refine (HBW.out.trans (HB2.out.mono (by omega))).trans ((ext_grown hA h2).below (by omega) (fun k hk => (HV22.out.lt k hk).1))
      clear hown2 hb2 hx2
      go_wp2_with (at_builtin; refine wpList_append_lies _ rfl _ _ 63 rfl B 22 i0 (.slice none 0 0) 1 24 Try.underlying63 hi0 hi1 hi2 hi3 rfl (by decide) (.slice ao2 j cap2) j vals rfl (ownsRow_below HV22.out ((Below.refl w2.heap.size w2).alloc (Nat.le_refl _) _)) ⟨w2.heap.size, 0, none⟩ 1 1 [.slice aoc l.length capc] rfl rfl (cells_new _ _ _) (by simp [Value.oneCell']) (by decide) (by unfold maxLen; omega) (by omega) (by rw [World.size_alloc]; omega) _ rfl ?_; intro g5 cap5 w5 hown5 hgrow5 hat5 hlt5; have HN := Lib.hid (HK.out g5 cap5 w5 hown5 hgrow5 hat5); clear hown5 hgrow5 hat5 hlt5)
      go_roundw
      case rel => exact ⟨j + 1, by omega, by go_num, HN.out.1, HN.out.2⟩
      case measure => simp [intOf]; omega
    · have hje : j = ls.length := by omega
      subst hje
      rw [List.take_length] at hgr
      have HGR := Lib.hid hgr
      have HBW := Lib.hid hb
      clear hgr hb
      go_wp2
      go_ret
      exact ⟨_, rfl, by rw [hB]; exact HGR.out, by rw [hB]; exact HBW.out⟩

set_option maxRecDepth 100000 in
theorem groups_nil (w : World) : Calls Try.prog 39 #[.pointer none] w fun e w' => e = .returned (.slice none 0 0) ∧ w = w' := by
  go_enter Try.func39, Try.ntmps39
  go_wp2
  go_ret
  exact ⟨rfl, rfl⟩
end Go.Proofs.Ytbbogkcfngpbbaa
