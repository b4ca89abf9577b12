/- The groups part the functions, plain. -/
import Derived.Test.YtbbogkcfngpbbaaLCaC
namespace Go.Proofs.Ytbbogkcfngpbbaa
open Go.RowKit

theorem groupsF_all (m : Mo) : ∀ f < m.fs.length, (groupsF m).1 f ≠ -1 := all_grouped (fun _ _ h => downF_lt h) partN_end

theorem groupsF_at (m : Mo) {f : Nat} (hf : f < m.fs.length) : ∃ (k : Nat) (l : List Nat), (groupsF m).1 f = (k : Int) ∧ (groupsF m).2[k]? = some l ∧ f ∈ l := by
  rcases (groupsF_inv m).num f hf with e | ⟨k, e, x, _, h1, h2⟩
  · exact absurd e (groupsF_all m f hf)
  · exact ⟨k, _, e, h1, h2⟩

theorem flatten_nodup : ∀ ls : List (List Nat), (∀ l ∈ ls, l.Nodup) → (∀ (i j : Nat) (a b : List Nat), ls[i]? = some a → ls[j]? = some b → ∀ x, x ∈ a → x ∈ b → i = j) → ls.flatten.Nodup
  | [], _, _ => by simp
  | l :: r, h1, h2 => by
    rw [List.flatten_cons, List.nodup_append]
    refine ⟨h1 l (by simp), flatten_nodup r (fun x hx => h1 x (by simp [hx])) (fun i j a b ha hb x hxa hxb => by
      have := h2 (i + 1) (j + 1) a b (by simpa using ha) (by simpa using hb) x hxa hxb
      omega), fun x hx y hy e => ?_⟩
    subst e
    obtain ⟨b, hb, hxb⟩ := List.mem_flatten.1 hy
    obtain ⟨j, hj⟩ := List.mem_iff_getElem?.1 hb
    have := h2 0 (j + 1) l b rfl (by simpa using hj) x hx hxb
    omega

theorem groups_flat (m : Mo) : (groupsF m).2.flatten.Nodup ∧ ∀ x, x ∈ (groupsF m).2.flatten ↔ x < m.fs.length := by
  have hi := groupsF_inv m
  refine ⟨flatten_nodup _ (fun l hl => ?_) (fun i j a b ha hb x hxa hxb => ?_), fun x => ⟨fun hx => ?_, fun hx => ?_⟩⟩
  · obtain ⟨k, hk⟩ := List.mem_iff_getElem?.1 hl
    obtain ⟨⟨f, _, rfl⟩, _⟩ := hi.of k l hk
    exact (List.nodup_range).filter _
  · have e1 := (hi.of i a ha).2 x hxa
    have e2 := (hi.of j b hb).2 x hxb
    omega
  · obtain ⟨l, hl, hxl⟩ := List.mem_flatten.1 hx
    obtain ⟨k, hk⟩ := List.mem_iff_getElem?.1 hl
    obtain ⟨⟨f, _, rfl⟩, _⟩ := hi.of k l hk
    exact (mem_grp.1 hxl).1
  · obtain ⟨k, l, _, h3, h4⟩ := groupsF_at m hx
    exact List.mem_flatten.2 ⟨l, List.mem_of_getElem? h3, h4⟩

theorem groups_total (m : Mo) : (groupsF m).2.flatten.length = m.fs.length := by
  obtain ⟨h1, h2⟩ := groups_flat m
  have hp : (groupsF m).2.flatten.Perm (List.range m.fs.length) := by
    rw [List.perm_ext_iff_of_nodup h1 List.nodup_range]
    intro x; rw [h2 x, List.mem_range]
  rw [hp.length_eq, List.length_range]

/-- A function's own calls are not in a group behind its own, and those in its own reach it. -/
theorem groups_up (m : Mo) {f c : Nat} (hf : f < m.fs.length) (hc : c ∈ downF m f) : (groupsF m).1 c ≤ (groupsF m).1 f ∧ ((groupsF m).1 c = (groupsF m).1 f → reachF m.fs.length (downF m) (c : Int) (f : Int) = true) := by
  have hi := groupsF_inv m
  have hcn := downF_lt hc
  obtain ⟨h1, h2⟩ := hi.calls f c hf hc (groupsF_all m f hf)
  refine ⟨h2, fun e => ?_⟩
  rcases hi.num f hf with q | ⟨k, q, x, hx, hk, hfx⟩
  · exact absurd q (groupsF_all m f hf)
  rcases hi.num c hcn with q' | ⟨k', q', x', hx', hk', hcx⟩
  · exact absurd q' h1
  have hkk : k' = k := by omega
  subst hkk
  have hg : grp m.fs.length (reachB (downF m)) x' = grp m.fs.length (reachB (downF m)) x := Option.some.inj (hk'.symm.trans hk)
  rw [hg, ← grp_same hfx] at hcx
  have hr : Rch (downF m) c f := by
    rcases (mem_grp.1 hcx).2 with e' | ⟨_, r⟩
    · subst e'; exact Rch.step hc
    · exact r
  unfold reachF
  simp only [Bool.and_eq_true, reachB_iff, inR_nat, decide_eq_true_eq, Int.toNat_natCast]
  exact ⟨hcn, hf, hr⟩

theorem flatten_take_len (ls : List (List Nat)) {j : Nat} {l : List Nat} (hl : ls[j]? = some l) : (ls.take (j + 1)).flatten.length = (ls.take j).flatten.length + l.length := by
  rw [show ls.take (j + 1) = ls.take j ++ [l] from by rw [List.take_add_one, hl]; rfl, List.flatten_append]; simp
end Go.Proofs.Ytbbogkcfngpbbaa
