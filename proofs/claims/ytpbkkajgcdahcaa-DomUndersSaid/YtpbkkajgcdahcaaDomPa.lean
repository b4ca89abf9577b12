/- Trees of who is over whom: Path and Depth. -/
import Derived.Test.YtpbkkajgcdahcaaDomR
import Derived.Test.YtpbkkajgcdahcaaLite
namespace Go.Proofs.Ytpbkkajgcdahcaa
open Go.RowKit

variable {T O PL R n : Nat} {o : Nat → Option Nat} {q : List Nat}

/-- The way up. -/
inductive IsPath (o : Nat → Option Nat) : Nat → List Nat → Prop
  | last {v : Nat} : o v = none → IsPath o v [v]
  | cons {v p : Nat} {l : List Nat} : o v = some p → IsPath o p l → IsPath o v (v :: l)

theorem IsPath.exists (h : Tr q (plN q) o) : ∀ (k v : Nat), plN q v ≤ k → ∃ l, IsPath o v l := by
  intro k
  induction k with
  | zero =>
    intro v hv
    cases e : o v with
    | none => exact ⟨[v], .last e⟩
    | some p => have := (h.up v p e).2.2.2.1; omega
  | succ k ih =>
    intro v hv
    cases e : o v with
    | none => exact ⟨[v], .last e⟩
    | some p =>
      obtain ⟨l, hl⟩ := ih p (by have := (h.up v p e).2.2.2.1; omega)
      exact ⟨v :: l, .cons e hl⟩

theorem IsPath.mem {v : Nat} {l : List Nat} (h : IsPath o v l) : ∀ x, x ∈ l ↔ Up o v x := by
  induction h with
  | @last v e =>
    intro x
    simp only [List.mem_singleton]
    constructor
    · rintro rfl; exact .refl _
    · intro k
      rcases k.cases' with rfl | ⟨p, e', _⟩
      · rfl
      · rw [e] at e'; cases e'
  | @cons v p l e _ ih =>
    intro x
    rw [List.mem_cons, ih]
    constructor
    · rintro (rfl | k)
      · exact .refl _
      · exact .step e k
    · intro k
      rcases k.cases' with rfl | ⟨p', e', k'⟩
      · exact .inl rfl
      · rw [e] at e'; obtain rfl := Option.some.inj e'; exact .inr k'

theorem IsPath.len (ht : Tr q (plN q) o) {v : Nat} {l : List Nat} (h : IsPath o v l) : l.length ≤ plN q v + 1 := by
  induction h with
  | last _ => simp
  | @cons v p l e _ ih => have := (ht.up v p e).2.2.2.1; simp; omega

theorem IsPath.nodup (ht : Tr q (plN q) o) {v : Nat} {l : List Nat} (h : IsPath o v l) : l.Nodup := by
  induction h with
  | last _ => simp
  | @cons v p l e h' ih =>
    rw [List.nodup_cons]
    refine ⟨fun hv => ?_, ih⟩
    have := ht.le ((h'.mem v).1 hv)
    have := (ht.up v p e).2.2.2.1
    omega

/-- What Path gives. -/
def PathOf (o : Nat → Option Nat) (q : List Nat) (at_ : Int) (l : List Nat) : Prop := (inQ q at_ = true → IsPath o at_.toNat l) ∧ (inQ q at_ = false → l = [])

theorem PathOf.exists (h : Tr q (plN q) o) (at_ : Int) : ∃ l, PathOf o q at_ l := by
  obtain ⟨l, hl⟩ := IsPath.exists h _ at_.toNat (Nat.le_refl _)
  cases e : inQ q at_ with
  | true => exact ⟨l, fun _ => hl, fun h => absurd (e.symm.trans h) (by decide)⟩
  | false => exact ⟨[], fun h => absurd (e.symm.trans h) (by decide), fun _ => rfl⟩

theorem PathOf.len (hq : Ord n q) (ht : Tr q (plN q) o) {at_ : Int} {l : List Nat} (h : PathOf o q at_ l) : l.length ≤ n := by
  cases e : inQ q at_ with
  | false => rw [h.2 e]; exact Nat.zero_le _
  | true =>
    obtain ⟨x, rfl, hx⟩ := inQ_iff.1 e
    have h1 := (h.1 e).len ht
    have h2 := List.idxOf_lt_length_of_mem hx
    have := hq.len
    simp only [Int.toNat_natCast, plN] at h1
    omega

/-- A list that Path is making. -/
def PathI (o : Nat → Option Nat) (q l : List Nat) (N : Nat) (w : World) (va vo : Value) (wr : World) : Prop :=
  ∃ (done rest : List Nat) (a : Option Nat) (ao : Option Addr) (cap : Nat), va = .int .i64 (oI a) ∧ done ++ rest = l ∧ (a = none → rest = []) ∧ (∀ x, a = some x → x ∈ q ∧ IsPath o x rest) ∧
    vo = .slice ao done.length cap ∧ wr.ownsRow N 3 1 (.slice ao done.length cap) done.length ((ints done).map (Value.int .i64)) ∧ Below N w wr

def upLeft (q : List Nat) (z : Int) : Nat := if z = -1 then 0 else plN q z.toNat + 1

def GivesL' (w : World) (xs : List Nat) (e : Ending) (w' : World) : Prop :=
  ∃ ao cap, e = .returned (.slice ao xs.length cap) ∧ OwnI w' w.heap.size (.slice ao xs.length cap) (ints xs) ∧ Below w.heap.size w w'

set_option maxRecDepth 100000 in
set_option maxHeartbeats 2000000 in
theorem path_calls (w : World) (h : TreeI w T O PL R n o q) (hq : Ord n q) (ht : Tr q (plN q) o) (hn : n ≤ 90000) (at_ : Int) (l : List Nat) (hl : PathOf o q at_ l) :
    Calls Try.prog 37 #[.pointer (some ⟨T, 0, none⟩), .int .i64 at_] w (GivesL' w l) := by
  have H := Lib.hid h
  have HQ := Lib.hid hq
  have HT := Lib.hid ht
  have HL := Lib.hid hl
  have hll := hl.len hq ht
  clear h hq ht hl
  obtain ⟨N, hN⟩ : ∃ N, w.heap.size = N := ⟨_, rfl⟩
  have HR := Lib.hid (reached_calls w H.out HQ.out hn at_)
  have HTB : Hid (∀ wr, Below N w wr → TreeI wr T O PL R n o q) := fun wr hb => H.out.below (by rw [hN]; exact hb)
  go_enter Try.func37, Try.ntmps37
  go_wp2_with fail
  go_at_call 64
  refine HR.out.mono ?_
  rintro e w2 ⟨rfl, rfl⟩
  obtain ⟨b, hb⟩ : ∃ b, inQ q at_ = b := ⟨_, rfl⟩
  rw [hb]
  have HB := Lib.hid hb
  clear hb
  cases b with
  | false =>
    have HE : Hid (l = []) := HL.out.2 HB.out
    go_wp2
    go_ret
    exact ⟨none, 0, by rw [HE.out]; rfl, by rw [HE.out]; exact OwnI.nil _ _, Below.refl _ _⟩
  | true =>
    obtain ⟨x0, hx0, hx0q⟩ := inQ_iff.1 HB.out
    subst hx0
    have HP0 : Hid (x0 ∈ q ∧ IsPath o x0 l) := ⟨hx0q, by simpa using HL.out.1 HB.out⟩
    clear hx0q
    go_wp2_with fail
    go_loopw [1, 4] (fun va vo wr => PathI o q l N w2 va vo wr) (fun va _ _ => upLeft q (intOf va))
    case atStart => exact ⟨[], l, some x0, none, 0, rfl, rfl, fun h => (by cases h), fun x hx => (by obtain rfl := Option.some.inj hx; exact HP0.out), rfl, World.ownsRow_nil _ _ _ _, Below.refl _ _⟩
    case round =>
      obtain ⟨done, rest, a, ao, cap, rfl, hdr, ha1, ha2, rfl, hown, hbl⟩ := hrel
      have hsz : N ≤ wr.heap.size := by have := hbl.size; omega
      have hdl : done.length ≤ n := by rw [← hdr, List.length_append] at hll; omega
      have HTW := HTB.out wr hbl
      have c0 := HTW.c0
      have HOWN := Lib.hid hown
      have HBL := Lib.hid hbl
      have HDR := Lib.hid hdr
      have HA1 := Lib.hid ha1
      have HA2 := Lib.hid ha2
      clear hown hbl hdr ha1 ha2
      cases a with
      | none =>
        have HE : Hid (l = done) := by unfold Hid; rw [← HDR.out, HA1.out rfl]; simp
        rw [show oI none = -1 from rfl]
        clear HTW
        go_wp2
        go_ret
        rw [HE.out]
        refine ⟨ao, cap, rfl, ?_, by rw [hN]; exact HBL.out⟩
        unfold OwnI
        have e : (ints done).length = done.length := by simp [ints]
        rw [e, hN]; exact HOWN.out
      | some x =>
        obtain ⟨hx, hp⟩ := HA2.out x rfl
        have hxn := HQ.out.lt x hx
        have hxI : (x : Int) < (n : Int) := by omega
        have co := HTW.co hxn
        rw [show oI (some x) = (x : Int) from rfl]
        have hxne : ((x : Int) == -1) = false := by rw [beq_eq_false_iff_ne]; omega
        have HX : Hid (x ∈ q ∧ IsPath o x rest) := ⟨hx, hp⟩
        have HCO := Lib.hid co
        clear hx hp HTW co
        obtain ⟨j0, hj0, hj1, hj2, hj3⟩ := info_parts info_int
        go_wp2_with (at_builtin; refine wpList_append_lies _ rfl _ _ 27 rfl N 3 j0 (.int .i64 0) 1 8 Try.underlying27 hj0 hj1 hj2 hj3 rfl (by decide) _ done.length _ rfl (ownsRow_below HOWN.out ((Below.refl wr.heap.size wr).alloc (Nat.le_refl _) _)) ⟨wr.heap.size, 0, none⟩ 1 1 [.int .i64 (x : Int)] rfl rfl (cells_new _ _ _) (by simp [Value.oneCell']) (by decide) ?c1 ?c2 ?c3 _ rfl ?_)
        case c1 => unfold maxLen; omega
        case c2 => omega
        case c3 => rw [World.size_alloc]; omega
        intro g5 cap5 w5 hown5 hgrow5 _ _
        have hb5 : Below N w2 w5 := (HBL.out.alloc hsz _).grown hgrow5 (by simp; omega) (fun k hk => (HOWN.out.lt k hk).1)
        have HT5 := HTB.out w5 hb5
        have c05 := HT5.c0
        have co5 := HT5.co hxn
        have HB5 := Lib.hid hb5
        have HO5 := Lib.hid hown5
        clear hown5 hgrow5 HT5 hb5
        have hdl1 : (done ++ [x]).length = done.length + 1 := by simp
        have hin1 : (ints (done ++ [x])).map (Value.int .i64) = (ints done).map (Value.int .i64) ++ [.int .i64 (x : Int)] := by simp [ints]
        have HR2 : Hid (∀ a', o x = a' → (PathI o q l N w2 (.int .i64 (oI a')) (.slice (some ⟨g5, 0, none⟩) (done.length + 1) cap5) w5) ∧ upLeft q (oI a') < upLeft q (x : Int)) := by
          rintro a' ha'
          refine ⟨?_, ?_⟩
          · cases HX.out.2 with
            | last e =>
              rw [e] at ha'
              subst ha'
              refine ⟨done ++ [x], [], none, some ⟨g5, 0, none⟩, cap5, rfl, by simpa using HDR.out, fun _ => rfl, fun z hz => (by cases hz), by rw [hdl1], ?_, HB5.out⟩
              rw [hdl1, hin1]; exact HO5.out
            | @cons _ p l' e hp =>
              rw [e] at ha'
              subst ha'
              refine ⟨done ++ [x], l', some p, some ⟨g5, 0, none⟩, cap5, rfl, by rw [← HDR.out]; simp, fun h => (by cases h), fun z hz => ?_, by rw [hdl1], ?_, HB5.out⟩
              · obtain rfl := Option.some.inj hz
                exact ⟨(HT.out.up x p e).2.2.1, hp⟩
              · rw [hdl1, hin1]; exact HO5.out
          · have e1 : upLeft q (x : Int) = plN q x + 1 := by unfold upLeft; rw [if_neg (by omega)]; simp
            rw [e1]
            cases a' with
            | none => simp [upLeft, oI]
            | some p =>
              have := (HT.out.up x p ha').2.2.2.1
              have hne : ¬ oI (some p) = -1 := by simp only [oI]; omega
              unfold upLeft
              rw [if_neg hne]
              simp only [oI, Int.toNat_natCast]; omega
        obtain ⟨a', ha'⟩ : ∃ a', o x = a' := ⟨_, rfl⟩
        rw [ha'] at co5
        have HF := Lib.hid (HR2.out a' ha')
        clear ha' HR2
        go_wp2
        go_roundw
        case rel => exact HF.out.1
        case measure => exact HF.out.2

def DepthP (w : World) (l : List Nat) (e : Ending) (w' : World) : Prop := e = .returned (.int .i64 (l.length : Int)) ∧ Below w.heap.size w w'

set_option maxRecDepth 100000 in
theorem depth_calls (w : World) (h : TreeI w T O PL R n o q) (hq : Ord n q) (ht : Tr q (plN q) o) (hn : n ≤ 90000) (at_ : Int) (l : List Nat) (hl : PathOf o q at_ l) :
    Calls Try.prog 35 #[.pointer (some ⟨T, 0, none⟩), .int .i64 at_] w (DepthP w l) := by
  have HP := Lib.hid (path_calls w h hq ht hn at_ l hl)
  clear h hq ht hl
  go_enter Try.func35, Try.ntmps35
  go_wp2_with fail
  go_at_call 37
  refine HP.out.mono ?_
  rintro e w2 ⟨ao, cap, rfl, hown, hb⟩
  have HB := Lib.hid hb
  clear hown hb
  go_wp2
  go_ret
  exact ⟨rfl, HB.out⟩
end Go.Proofs.Ytpbkkajgcdahcaa
