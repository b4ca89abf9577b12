/- The reference's Over and Path, of a table. -/
import Derived.Test.YtpbkkajgcdahcaaTab9
namespace Go.Proofs.Ytpbkkajgcdahcaa
open Go.RowKit

variable {n : Nat} {o : Nat → Option Nat} {q : List Nat}

/-- What a table says. -/
def FT (n : Nat) (o : Nat → Option Nat) (q : List Nat) (f : Nat → Nat → Bool) : Prop := ∀ a b, a < n → b < n → (f a b = true ↔ b ∈ q ∧ Up o b a)

theorem FT.of {ins : List Ins} {f : Nat → Nat → Bool} (hd : DomT ins q o) (h : ∀ a b, a < ins.length → b < ins.length → (f a b = true ↔ a ∈ q ∧ b ∈ q ∧ ¬ RW (nextN ins) a b)) : FT ins.length o q f := by
  intro a b ha hb
  rw [h a b ha hb]
  constructor
  · rintro ⟨_, h2, h3⟩; exact ⟨h2, (hd.iff b h2 a).2 h3⟩
  · rintro ⟨h2, h3⟩; exact ⟨hd.tr.mem h3 h2, h2, (hd.iff b h2 a).1 h3⟩

/-- The nearest so far. -/
def BestI (o : Nat → Option Nat) (x a : Nat) : Option Nat → Prop
  | none => ∀ y, y < a → y ≠ x → ¬ Up o x y
  | some b => b ≠ x ∧ Up o x b ∧ ∀ y, y < a → y ≠ x → Up o x y → Up o b y

theorem BestI.skip {x a : Nat} {bo : Option Nat} (h : BestI o x a bo) (hs : a = x ∨ ¬ Up o x a) : BestI o x (a + 1) bo := by
  have key : ∀ y, y < a + 1 → y ≠ x → Up o x y → y < a := by
    intro y hy hne hu
    rcases Nat.lt_or_ge y a with h' | h'
    · exact h'
    · have : y = a := by omega
      subst this
      rcases hs with hs | hs
      · exact absurd hs hne
      · exact absurd hu hs
  cases bo with
  | none => exact fun y hy hne hu => h y (key y hy hne hu) hne hu
  | some b => exact ⟨h.1, h.2.1, fun y hy hne hu => h.2.2 y (key y hy hne hu) hne hu⟩

theorem BestI.first {x a : Nat} (h : BestI o x a none) (hne : a ≠ x) (hu : Up o x a) : BestI o x (a + 1) (some a) := by
  refine ⟨hne, hu, fun y hy hyx hyu => ?_⟩
  rcases Nat.lt_or_ge y a with h' | h'
  · exact absurd hyu (h y h' hyx)
  · have : y = a := by omega
    subst this; exact .refl _

theorem BestI.better {x a b : Nat} (h : BestI o x a (some b)) (hne : a ≠ x) (hu : Up o x a) (hab : Up o a b) : BestI o x (a + 1) (some a) := by
  refine ⟨hne, hu, fun y hy hyx hyu => ?_⟩
  rcases Nat.lt_or_ge y a with h' | h'
  · exact hab.trans (h.2.2 y h' hyx hyu)
  · have : y = a := by omega
    subst this; exact .refl _

theorem BestI.worse {x a b : Nat} (h : BestI o x a (some b)) (hu : Up o x a) (hab : ¬ Up o a b) : BestI o x (a + 1) (some b) := by
  refine ⟨h.1, h.2.1, fun y hy hyx hyu => ?_⟩
  rcases Nat.lt_or_ge y a with h' | h'
  · exact h.2.2 y h' hyx hyu
  · have : y = a := by omega
    subst this
    rcases h.2.1.total hu with h1 | h1
    · exact h1
    · exact absurd h1 hab

theorem BestI.done (ht : Tr q (plN q) o) (hq : Ord n q) {x : Nat} {bo : Option Nat} (h : BestI o x n bo) : bo = o x := by
  cases e : o x with
  | none =>
    cases bo with
    | none => rfl
    | some b =>
      rcases h.2.1.cases' with h' | ⟨p, e', _⟩
      · exact absurd h' h.1
      · rw [e] at e'; cases e'
  | some p =>
    have hu := ht.up x p e
    have hpn := hq.lt p hu.2.2.1
    have hpx : p ≠ x := by rintro rfl; omega
    have hup : Up o x p := .step e (.refl _)
    cases bo with
    | none => exact absurd hup (h p hpn hpx)
    | some b =>
      rcases h.2.1.cases' with h' | ⟨p', e', h'⟩
      · exact absurd h' h.1
      · rw [e] at e'
        obtain rfl := Option.some.inj e'
        rw [ht.anti h' (h.2.2 p hpn hpx hup)]

set_option maxRecDepth 100000 in
set_option maxHeartbeats 2000000 in
theorem over9_calls (w : World) (R : Nat) (bs : Nat → Nat) (f : Nat → Nat → Bool) (h : TabJ w R n n bs f) (hf : FT n o q f) (hq : Ord n q) (ht : Tr q (plN q) o) (hn : n ≤ 90000) (at_ : Int) :
    Calls Try.prog 34 #[.slice (some ⟨R, 0, none⟩) n n, .int .i64 at_] w (OverP o q at_ w) := by
  have H := Lib.hid h
  have HF := Lib.hid hf
  have HQ := Lib.hid hq
  have HT := Lib.hid ht
  clear h hf hq ht
  go_enter Try.func34, Try.ntmps34
  by_cases a1 : at_ < 0
  · have HX : Hid (overI o q at_ = -1) := by
      unfold Hid overI
      have : inQ q at_ = false := by unfold inQ; rw [decide_eq_false (by omega)]; rfl
      rw [this]; rfl
    go_wp2
    go_ret
    exact ⟨by rw [HX.out]; rfl, rfl⟩
  · obtain ⟨x, rfl⟩ : ∃ x : Nat, at_ = (x : Int) := ⟨at_.toNat, by omega⟩
    have d1 : decide ((x : Int) < 0) = false := decide_eq_false a1
    clear a1
    by_cases a2 : x < n
    · have hxI : (x : Int) < (n : Int) := by omega
      have d2 : decide (n ≤ x) = false := decide_eq_false (by omega)
      obtain ⟨cx, cxx0⟩ := H.out.read a2
      have cxx := cxx0 x a2
      clear cxx0
      have hfx := HF.out x x a2 a2
      obtain ⟨r, hr⟩ : ∃ r, f x x = r := ⟨_, rfl⟩
      rw [hr] at cxx hfx
      have HFX := Lib.hid hfx
      clear hfx hr
      cases r with
      | false =>
        have HX : Hid (overI o q (x : Int) = -1) := by
          unfold Hid overI
          have : inQ q (x : Int) = false := by rw [inQ_nat]; exact decide_eq_false (fun hm => by have := HFX.out.2 ⟨hm, .refl _⟩; simp at this)
          rw [this]; rfl
        go_wp2
        go_ret
        exact ⟨by rw [HX.out]; rfl, rfl⟩
      | true =>
        have HXQ : Hid (x ∈ q) := (HFX.out.1 rfl).1
        go_wp2_with fail
        go_loopw [5, 6] (fun vb c wr => ∃ (a : Nat) (bo : Option Nat), a ≤ n ∧ c = .int .i64 (a : Int) ∧ vb = .int .i64 (oI bo) ∧ BestI o x a bo ∧ wr = w) (fun _ c _ => n - (intOf c).toNat)
        case atStart => exact ⟨0, none, Nat.zero_le _, rfl, rfl, fun y hy => absurd hy (Nat.not_lt_zero y), rfl⟩
        case round =>
          obtain ⟨a, bo, ha, rfl, rfl, hb, rfl⟩ := hrel
          have HB := Lib.hid hb
          clear hb
          by_cases han : a < n
          · have haI : (a : Int) < (n : Int) := by omega
            obtain ⟨ca, cab⟩ := H.out.read han
            have cax := cab x a2
            have hfa := HF.out a x han a2
            obtain ⟨ra, hra⟩ : ∃ r, f a x = r := ⟨_, rfl⟩
            rw [hra] at cax hfa
            have HFA := Lib.hid hfa
            clear hfa hra cab
            by_cases hax : a = x
            · have HN : Hid (BestI o x (a + 1) bo) := HB.out.skip (.inl hax)
              have hd : ((a : Int) != (x : Int)) = false := by rw [hax]; simp
              clear hax
              go_wp2
              go_roundw
              case rel => exact ⟨a + 1, bo, by omega, by go_num, rfl, HN.out, trivial⟩
              case measure => simp [intOf]; omega
            · have hd : ((a : Int) != (x : Int)) = true := by rw [bne_iff_ne]; omega
              have HAX := Lib.hid hax
              clear hax
              cases ra with
              | false =>
                have HN : Hid (BestI o x (a + 1) bo) := HB.out.skip (.inr (fun hu => by have := HFA.out.2 ⟨HXQ.out, hu⟩; simp at this))
                go_wp2
                go_roundw
                case rel => exact ⟨a + 1, bo, by omega, by go_num, rfl, HN.out, trivial⟩
                case measure => simp [intOf]; omega
              | true =>
                have HU : Hid (Up o x a) := (HFA.out.1 rfl).2
                cases bo with
                | none =>
                  have HN : Hid (BestI o x (a + 1) (some a)) := HB.out.first HAX.out HU.out
                  rw [show oI none = -1 from rfl]
                  go_wp2
                  go_roundw
                  case rel => exact ⟨a + 1, some a, by omega, by go_num, rfl, HN.out, trivial⟩
                  case measure => simp [intOf]; omega
                | some b =>
                  have hbn : b < n := HQ.out.lt b (HT.out.mem HB.out.2.1 HXQ.out)
                  have haq : a ∈ q := HT.out.mem HU.out HXQ.out
                  obtain ⟨cb, cba0⟩ := H.out.read hbn
                  have cba := cba0 a han
                  clear cba0
                  have hfb := HF.out b a hbn han
                  obtain ⟨rb, hrb⟩ : ∃ r, f b a = r := ⟨_, rfl⟩
                  rw [hrb] at cba hfb
                  have HFB := Lib.hid hfb
                  have hbI : (b : Int) < (n : Int) := by omega
                  have hb0 : decide ((b : Int) < 0) = false := decide_eq_false (by omega)
                  have HAQ := Lib.hid haq
                  clear hfb hrb haq
                  rw [show oI (some b) = (b : Int) from rfl]
                  cases rb with
                  | true =>
                    have HN : Hid (BestI o x (a + 1) (some a)) := HB.out.better HAX.out HU.out (HFB.out.1 rfl).2
                    go_wp2
                    go_roundw
                    case rel => exact ⟨a + 1, some a, by omega, by go_num, rfl, HN.out, trivial⟩
                    case measure => simp [intOf]; omega
                  | false =>
                    have HN : Hid (BestI o x (a + 1) (some b)) := HB.out.worse HU.out (fun hu => by have := HFB.out.2 ⟨HAQ.out, hu⟩; simp at this)
                    go_wp2
                    go_roundw
                    case rel => exact ⟨a + 1, some b, by omega, by go_num, rfl, HN.out, trivial⟩
                    case measure => simp [intOf]; omega
          · have hae : a = n := by omega
            have HE : Hid (overI o q (x : Int) = oI bo) := by
              unfold Hid overI
              have hbo : bo = o x := by have h := HB.out; rw [hae] at h; exact h.done HT.out HQ.out
              rw [inQ_nat, decide_eq_true HXQ.out, if_pos rfl, Int.toNat_natCast, hbo]
            have hd : decide (a < n) = false := decide_eq_false han
            clear hae
            go_wp2
            go_ret
            exact ⟨by rw [HE.out]; rfl, rfl⟩
    · have d2 : decide (n ≤ x) = true := decide_eq_true (by omega)
      have HX : Hid (overI o q (x : Int) = -1) := by
        unfold Hid overI
        have : inQ q (x : Int) = false := by rw [inQ_nat]; exact decide_eq_false (fun hm => a2 (HQ.out.lt x hm))
        rw [this]; rfl
      go_wp2
      go_ret
      exact ⟨by rw [HX.out]; rfl, rfl⟩

set_option maxRecDepth 100000 in
set_option maxHeartbeats 2000000 in
theorem path9_calls (w : World) (R : Nat) (bs : Nat → Nat) (f : Nat → Nat → Bool) (h : TabJ w R n n bs f) (hf : FT n o q f) (hq : Ord n q) (ht : Tr q (plN q) o) (hn : n ≤ 90000) (at_ : Int) (l : List Nat) (hl : PathOf o q at_ l) :
    Calls Try.prog 32 #[.slice (some ⟨R, 0, none⟩) n n, .int .i64 at_] w (GivesL' w l) := by
  have H := Lib.hid h
  have HF := Lib.hid hf
  have HQ := Lib.hid hq
  have HT := Lib.hid ht
  have HL := Lib.hid hl
  have hll := hl.len hq ht
  clear h hf hq ht hl
  obtain ⟨N, hN⟩ : ∃ N, w.heap.size = N := ⟨_, rfl⟩
  have HTB : Hid (∀ wr, Below N w wr → TabJ wr R n n bs f) := fun wr hb => H.out.below (by rw [hN]; exact hb)
  go_enter Try.func32, Try.ntmps32
  by_cases a1 : at_ < 0
  · have HE : Hid (l = []) := HL.out.2 (by unfold inQ; rw [decide_eq_false (by omega)]; rfl)
    go_wp2
    go_ret
    exact ⟨none, 0, by rw [HE.out]; rfl, by rw [HE.out]; exact OwnI.nil _ _, Below.refl _ _⟩
  · obtain ⟨x0, rfl⟩ : ∃ x : Nat, at_ = (x : Int) := ⟨at_.toNat, by omega⟩
    have d1 : decide ((x0 : Int) < 0) = false := decide_eq_false a1
    clear a1
    by_cases a2 : x0 < n
    · have hxI : (x0 : Int) < (n : Int) := by omega
      have d2 : decide (n ≤ x0) = false := decide_eq_false (by omega)
      obtain ⟨cx, cxx0⟩ := H.out.read a2
      have cxx := cxx0 x0 a2
      clear cxx0
      have hfx := HF.out x0 x0 a2 a2
      obtain ⟨r, hr⟩ : ∃ r, f x0 x0 = r := ⟨_, rfl⟩
      rw [hr] at cxx hfx
      have HFX := Lib.hid hfx
      clear hfx hr
      cases r with
      | false =>
        have HE : Hid (l = []) := HL.out.2 (by rw [inQ_nat]; exact decide_eq_false (fun hm => by have := HFX.out.2 ⟨hm, .refl _⟩; simp at this))
        go_wp2
        go_ret
        exact ⟨none, 0, by rw [HE.out]; rfl, by rw [HE.out]; exact OwnI.nil _ _, Below.refl _ _⟩
      | true =>
        have hxq : x0 ∈ q := (HFX.out.1 rfl).1
        have HP0 : Hid (x0 ∈ q ∧ IsPath o x0 l) := ⟨hxq, by have := HL.out.1 (by rw [inQ_nat]; exact decide_eq_true hxq); simpa using this⟩
        clear hxq
        go_wp2_with fail
        go_loopw [1, 5] (fun va vo wr => PathI o q l N w va vo wr) (fun va _ _ => upLeft q (intOf va))
        case atStart => exact ⟨[], l, some x0, none, 0, rfl, rfl, fun h => (by cases h), fun x hx => (by obtain rfl := Option.some.inj hx; exact HP0.out), rfl, World.ownsRow_nil _ _ _ _, Below.refl _ _⟩
        case round =>
          obtain ⟨done, rest, a, ao, cap, rfl, hdr, ha1, ha2, rfl, hown, hbl⟩ := hrel
          have hsz : N ≤ wr.heap.size := by have := hbl.size; omega
          have hdl : done.length ≤ n := by rw [← hdr, List.length_append] at hll; omega
          have HOWN := Lib.hid hown
          have HBL := Lib.hid hbl
          have HDR := Lib.hid hdr
          have HA1 := Lib.hid ha1
          have HA2 := Lib.hid ha2
          clear hown hbl hdr ha1 ha2 cx cxx
          cases a with
          | none =>
            have HE : Hid (l = done) := by unfold Hid; rw [← HDR.out, HA1.out rfl]; simp
            rw [show oI none = -1 from rfl]
            go_wp2
            go_ret
            rw [HE.out]
            refine ⟨ao, cap, rfl, ?_, by rw [hN]; exact HBL.out⟩
            unfold OwnI
            have e : (ints done).length = done.length := by simp [ints]
            rw [e, hN]; exact HOWN.out
          | some x =>
            obtain ⟨hx, hp⟩ := HA2.out x rfl
            rw [show oI (some x) = (x : Int) from rfl]
            have hx0' : decide ((0 : Int) ≤ (x : Int)) = true := decide_eq_true (by omega)
            have HX : Hid (x ∈ q ∧ IsPath o x rest) := ⟨hx, hp⟩
            clear hx hp
            obtain ⟨j0, hj0, hj1, hj2, hj3⟩ := info_parts info_int
            go_wp2_with (at_builtin; refine wpList_append_lies _ rfl _ _ 27 rfl N 3 j0 (.int .i64 0) 1 8 Try.underlying27 hj0 hj1 hj2 hj3 rfl (by decide) _ done.length _ rfl (ownsRow_below HOWN.out ((Below.refl wr.heap.size wr).alloc (Nat.le_refl _) _)) ⟨wr.heap.size, 0, none⟩ 1 1 [.int .i64 (x : Int)] rfl rfl (cells_new _ _ _) (by simp [Value.oneCell']) (by decide) ?c1 ?c2 ?c3 _ rfl ?_)
            case c1 => unfold maxLen; omega
            case c2 => omega
            case c3 => rw [World.size_alloc]; omega
            intro g5 cap5 w5 hown5 hgrow5 _ _
            have hb5 : Below N w w5 := (HBL.out.alloc hsz _).grown hgrow5 (by simp; omega) (fun k hk => (HOWN.out.lt k hk).1)
            have HB5 := Lib.hid hb5
            have HO5 := Lib.hid hown5
            have HOV := Lib.hid (over9_calls w5 R bs f (HTB.out w5 hb5) HF.out HQ.out HT.out hn (x : Int))
            clear hown5 hgrow5 hb5
            have hdl1 : (done ++ [x]).length = done.length + 1 := by simp
            have hin1 : (ints (done ++ [x])).map (Value.int .i64) = (ints done).map (Value.int .i64) ++ [.int .i64 (x : Int)] := by simp [ints]
            have HR2 : Hid (∀ a', o x = a' → (PathI o q l N w (.int .i64 (oI a')) (.slice (some ⟨g5, 0, none⟩) (done.length + 1) cap5) w5) ∧ upLeft q (oI a') < upLeft q (x : Int)) := by
              rintro a' ha'
              refine ⟨?_, ?_⟩
              · cases HX.out.2 with
                | last e =>
                  rw [e] at ha'
                  subst ha'
                  refine ⟨done ++ [x], [], none, some ⟨g5, 0, none⟩, cap5, rfl, by simpa using HDR.out, fun _ => rfl, fun z hz => (by cases hz), by rw [hdl1], ?_, HB5.out⟩
                  rw [hdl1, hin1]; exact HO5.out
                | @cons _ p l' e hp =>
                  rw [e] at ha'
                  subst ha'
                  refine ⟨done ++ [x], l', some p, some ⟨g5, 0, none⟩, cap5, rfl, by rw [← HDR.out]; simp, fun h => (by cases h), fun z hz => ?_, by rw [hdl1], ?_, HB5.out⟩
                  · obtain rfl := Option.some.inj hz
                    exact ⟨(HT.out.up x p e).2.2.1, hp⟩
                  · rw [hdl1, hin1]; exact HO5.out
              · have e1 : upLeft q (x : Int) = plN q x + 1 := by unfold upLeft; rw [if_neg (by omega)]; simp
                rw [e1]
                cases a' with
                | none => simp [upLeft, oI]
                | some p =>
                  have := (HT.out.up x p ha').2.2.2.1
                  have hne : ¬ oI (some p) = -1 := by simp only [oI]; omega
                  unfold upLeft
                  rw [if_neg hne]
                  simp only [oI, Int.toNat_natCast]; omega
            have hov : overI o q (x : Int) = oI (o x) := by unfold overI; rw [inQ_nat, decide_eq_true HX.out.1, if_pos rfl, Int.toNat_natCast]
            have HOVE := Lib.hid hov
            clear hov
            go_wp2_with fail
            go_at_call 34
            refine HOV.out.mono ?_
            rintro e w6 ⟨rfl, hw6⟩
            rw [HOVE.out, hw6]
            clear hw6
            obtain ⟨a', ha'⟩ : ∃ a', o x = a' := ⟨_, rfl⟩
            rw [ha']
            have HFI := Lib.hid (HR2.out a' ha')
            clear ha' HR2
            go_wp2
            go_roundw
            case rel => exact HFI.out.1
            case measure => exact HFI.out.2
    · have d2 : decide (n ≤ x0) = true := decide_eq_true (by omega)
      have HE : Hid (l = []) := HL.out.2 (by rw [inQ_nat]; exact decide_eq_false (fun hm => a2 (HQ.out.lt x0 hm)))
      go_wp2
      go_ret
      exact ⟨none, 0, by rw [HE.out]; rfl, by rw [HE.out]; exact OwnI.nil _ _, Below.refl _ _⟩
end Go.Proofs.Ytpbkkajgcdahcaa
