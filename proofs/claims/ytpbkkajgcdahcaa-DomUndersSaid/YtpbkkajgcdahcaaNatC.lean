/- The tree's loop of a head: its contract. -/
import Derived.Test.YtpbkkajgcdahcaaNatA
import Derived.Test.YtpbkkajgcdahcaaNatR
import Derived.Test.YtpbkkajgcdahcaaSortL
import Derived.Sort.OwnSortedInts
namespace Go.Proofs.Ytpbkkajgcdahcaa
open Go.RowKit Go.Maps

/-- A set of numbers. -/
def MS (S : List Int) (p : Nat → Prop) : Prop := ∀ z : Int, z ∈ S ↔ ∃ y : Nat, z = (y : Int) ∧ p y

theorem MS.nil {p : Nat → Prop} (h : ∀ y, ¬ p y) : MS [] p := fun z => ⟨fun h => by simp at h, fun ⟨y, _, hy⟩ => absurd hy (h y)⟩
theorem MS.at {S : List Int} {p : Nat → Prop} (h : MS S p) (y : Nat) : (y : Int) ∈ S ↔ p y := by
  rw [h y]
  exact ⟨fun ⟨z, e, hz⟩ => by have : y = z := by omega
                              subst this; exact hz, fun h => ⟨y, rfl, h⟩⟩
theorem MS.cons {S : List Int} {p r : Nat → Prop} (h : MS S p) (x : Nat) (hr : ∀ y, r y ↔ y = x ∨ p y) : MS ((x : Int) :: S) r := by
  intro z
  rw [List.mem_cons, h z]
  constructor
  · rintro (rfl | ⟨y, rfl, hy⟩)
    · exact ⟨x, rfl, (hr x).2 (.inl rfl)⟩
    · exact ⟨y, rfl, (hr y).2 (.inr hy)⟩
  · rintro ⟨y, rfl, hy⟩
    rcases (hr y).1 hy with rfl | h
    · exact .inl rfl
    · exact .inr ⟨y, rfl, h⟩
theorem MS.congr {S : List Int} {p r : Nat → Prop} (h : MS S p) (hr : ∀ y, r y ↔ p y) : MS S r := fun z => (h z).trans ⟨fun ⟨y, e, k⟩ => ⟨y, e, (hr y).2 k⟩, fun ⟨y, e, k⟩ => ⟨y, e, (hr y).1 k⟩⟩

theorem nodup_len_int : ∀ (a b : List Int), a.Nodup → (∀ x ∈ a, x ∈ b) → a.length ≤ b.length
  | [], _, _, _ => Nat.zero_le _
  | x :: a, b, hn, h => by
    rw [List.nodup_cons] at hn
    have hx : x ∈ b := h x (by simp)
    have ih := nodup_len_int a (b.erase x) hn.2 (fun y hy => (List.mem_erase_of_ne (fun e => hn.1 (by rw [← e]; exact hy))).2 (h y (by simp [hy])))
    rw [List.length_erase_of_mem hx] at ih
    have := List.length_pos_of_mem hx
    simp; omega

/-- A Boolean that no simp parts on. -/
structure BB where
  b : Bool

/-- Between two rounds of the range: what has come, and in which block. -/
structure KeysI (wr wq : World) (N RI n : Nat) (D : DataW Unit) (S : List Int) (left : Lit → Bool) (cnt : Nat) (ks : List Int) (v : Value) : Prop where
  rg : wq.ranges Try.prog 3 (plainElem Try.prog 4) N RI n D left cnt
  own : wq.ownsRow (RI + 1) 3 1 v ks.length (ks.map (Value.int .i64))
  nodup : ks.Nodup
  mem : ∀ z, z ∈ ks ↔ z ∈ S ∧ left (.int .i64 z) = false
  below : Below RI wr wq
  size : RI + 1 ≤ wq.heap.size

theorem KeysI.step {wr wq w1 w5 : World} {N RI n cnt cnt1 L cap g5 cap5 : Nat} {D : DataW Unit} {S : List Int} {left : Lit → Bool} {ks : List Int} {ao : Option Addr} {x : Int} {o : Obj} (h : KeysI wr wq N RI n D S left cnt ks (.slice ao L cap)) (hset : IsSet D S) (hNR : N < RI) (hlx : left (.int .i64 x) = true) {d : DataW Unit} (hat : ∀ zd, D.atKey (.int .i64 x) zd = d)
    (hrg1 : w1.ranges Try.prog 3 (plainElem Try.prog 4) N RI n D (fun z => left z && !z.sameKey (.int .i64 x)) cnt1) (hg1 : wq.grownBy w1 (some RI)) (hs1 : w1.heap.size = wq.heap.size)
    (hown : w5.ownsRow (RI + 1) 3 1 (.slice (some ⟨g5, 0, none⟩) (ks.length + 1) cap5) (ks.length + 1) (ks.map (Value.int .i64) ++ [.int .i64 x])) (hg : (w1.alloc o).grownBy w5 (Value.slice ao L cap).ownBlock) :
    KeysI wr w5 N RI n D S (fun z => left z && !z.sameKey (.int .i64 x)) cnt1 (ks ++ [x]) (.slice (some ⟨g5, 0, none⟩) (ks.length + 1) cap5) := by
  have hxs : x ∈ S := by
    obtain ⟨x', e1, e2⟩ := hset.key _ (has_true_of_atKey hat)
    cases e1; exact e2
  have hxk : x ∉ ks := fun hk => by have := ((h.mem x).1 hk).2; rw [hlx] at this; cases this
  have hob : ∀ k, (Value.slice ao L cap).ownBlock = some k → RI + 1 ≤ k ∧ k < wq.heap.size := fun k hk => h.own.lt k hk
  refine ⟨(hrg1.alloc o).kept hg (fun e => ?_) (fun e => ?_), ?_, ?_, fun z => ?_, ?_, ?_⟩
  · have := hob N e.symm; omega
  · have := hob RI e.symm; omega
  · simpa using hown
  · rw [List.nodup_append]
    exact ⟨h.nodup, by simp, by intro a ha b hb; simp at hb; subst hb; rintro rfl; exact hxk ha⟩
  · rw [List.mem_append, h.mem z, List.mem_singleton]
    constructor
    · rintro (⟨h1, h2⟩ | rfl)
      · exact ⟨h1, by rw [h2]; rfl⟩
      · exact ⟨hxs, by rw [WideAt.sameKey_self (by simp [WideAt.IsKeyLit])]; simp⟩
    · rintro ⟨h1, h2⟩
      by_cases e : left (.int .i64 z) = true
      · refine .inr ?_
        rw [e] at h2
        simp only [Bool.true_and, Bool.not_eq_false'] at h2
        have := WideAt.sameKey_eq h2
        cases this; rfl
      · exact .inl ⟨h1, by simpa using e⟩
  · refine h.below.trans ?_
    have hx1 : Ext (RI ≤ ·) wq w1 := Ext.of_grown hg1 (fun k hk => .inl (by cases hk; exact Nat.le_refl _))
    have hx2 : Ext (RI ≤ ·) wq w5 := (hx1.alloc o).trans (Ext.of_grown (M := (RI ≤ ·)) hg (fun k hk => .inl (by show RI ≤ k; have := hob k hk; omega))) (fun j hj => .inl hj)
    exact hx2.below (by have := h.size; omega) (fun k hk => hk)
  · have := hg.size; rw [World.size_alloc] at this; have := h.size; omega

set_option maxRecDepth 100000 in
set_option maxHeartbeats 8000000 in
theorem natural_calls (w : World) {T O PL R H n : Nat} {o : Nat → Option Nat} {q : List Nat} {P : Nat → List Nat} {f : Nat → Nat → Bool} (h : TreeI w T O PL R n o q) (rb : RowsB w R H n P) (hq : Ord n q) (ht : Tr q (plN q) o) (hall : ∀ x ∈ q, Proc o x) (hf : FT n o q f) (hn : n ≤ 60) (hPl : ∀ x y, y ∈ P x → y < n) (hPn : ∀ x, (P x).length ≤ 120) (at_ : Int) (Tl : List Nat)
    (hT : ∀ hd : Nat, at_ = (hd : Int) → hd < n → bfs (succN P hd) (n + 1) (natI P (f hd) hd) 0 = some Tl ∧ Tl.Nodup ∧ ∀ x ∈ Tl, x < n) :
    Calls Try.prog 49 #[.pointer (some ⟨T, 0, none⟩), .int .i64 at_] w (GivesL' w (if 0 ≤ at_ ∧ at_ < (n : Int) then natL n at_.toNat (natI P (f at_.toNat) at_.toNat) Tl else [])) := by
  have hmm := @run_makeMap Try.prog
  have hmf : ∀ (fn : Fn) (first cap : Array Value) (w : World), (Instr.makeFunc fn first cap).run Try.prog w = .ok (.func fn first cap) w := fun _ _ _ _ => rfl
  obtain ⟨N, hN⟩ : ∃ N, w.heap.size = N := ⟨_, rfl⟩
  have hTN : T < N := by rw [← hN]; exact (Array.getElem?_eq_some_iff.1 h.tree).1
  have hON : O < N := by rw [← hN]; exact (Array.getElem?_eq_some_iff.1 h.over).1
  have hPN : PL < N := by rw [← hN]; exact (Array.getElem?_eq_some_iff.1 h.place).1
  have hHN : H ≤ N := by rw [← hN]; obtain ⟨_, _, _, h3, _⟩ := rb; exact h3
  have HKW : Hid (∀ wr, Ext (N ≤ ·) w wr → TreeI wr T O PL R n o q ∧ RowsB wr R H n P ∧ Below N w wr) := fun wr hx =>
    ⟨h.ext hx (by show ¬ N ≤ T; omega) (by show ¬ N ≤ O; omega) (by show ¬ N ≤ PL; omega), rb.ext hx (fun k _ q2 => by show ¬ N ≤ k; omega), hx.below (by omega) (fun k hk => hk)⟩
  have HQ := Lib.hid hq
  have HTR := Lib.hid ht
  have HALL := Lib.hid hall
  have HF := Lib.hid hf
  have HPL := Lib.hid hPl
  have HPN := Lib.hid hPn
  have HTT := Lib.hid hT
  have HRC : Hid (Calls Try.prog 64 #[.pointer (some ⟨T, 0, none⟩), .int .i64 at_] w (ReachedP q at_ w)) := reached_calls w h hq (by omega) at_
  have HND : Hid (∀ (wr : World) (a b : Int), Ext (N ≤ ·) w wr → Calls Try.prog 38 #[.pointer (some ⟨T, 0, none⟩), .int .i64 a, .int .i64 b] wr (DomsP o q a b wr)) := fun wr a b hx =>
    dominates_calls wr (HKW.out wr hx).1 HQ.out HTR.out HALL.out (by omega) a b
  have c2 := h.c2
  have HNN := Lib.hid hN
  clear h rb hq ht hall hf hPl hPn hT hN
  obtain ⟨RS, hRS⟩ : ∃ RS, (if 0 ≤ at_ ∧ at_ < (n : Int) then natL n at_.toNat (natI P (f at_.toNat) at_.toNat) Tl else []) = RS := ⟨_, rfl⟩
  rw [hRS]
  have HRS := Lib.hid hRS
  clear hRS
  go_enter Try.func49, Try.ntmps49
  go_wp2_with fail
  go_at_call 64
  refine HRC.out.mono ?_
  rintro e w2 ⟨rfl, hw2⟩
  rw [hw2]
  clear hw2 HRC
  obtain ⟨r0, hr0⟩ : ∃ r, inQ q at_ = r := ⟨_, rfl⟩
  rw [hr0]
  have HR0 := Lib.hid hr0
  clear hr0
  cases r0 with
  | false =>
    have HX : RS = [] := by
      rw [← HRS.out]
      by_cases h1 : 0 ≤ at_ ∧ at_ < (n : Int)
      · rw [if_pos h1]
        unfold natL
        rw [if_pos]
        have h2 : (P at_.toNat).filter (f at_.toNat) = [] := by
          rw [List.filter_eq_nil_iff]
          intro b hb hfb
          have h3 := (HF.out at_.toNat b (by omega) (HPL.out _ _ hb)).1 hfb
          have h4 := HTR.out.mem h3.2 h3.1
          have h5 := HR0.out
          unfold inQ at h5
          rw [decide_eq_true h1.1, decide_eq_true h4] at h5
          cases h5
        unfold natI
        rw [h2]; rfl
      · rw [if_neg h1]
    subst HX
    go_wp2
    go_ret
    exact ⟨none, 0, rfl, OwnI.nil _ _, Below.refl _ _⟩
  | true =>
    obtain ⟨hd, hhd, hdq⟩ := inQ_iff.1 HR0.out
    subst hhd
    have hdn := HQ.out.lt hd hdq
    have hdI : (hd : Int) < (n : Int) := by omega
    obtain ⟨hbfs, hTn, hTl⟩ := HTT.out hd rfl hdn
    obtain ⟨I, hI⟩ : ∃ I, natI P (f hd) hd = I := ⟨_, rfl⟩
    have hrs : natL n hd I Tl = RS := by
      have h1 := HRS.out
      rw [if_pos ⟨by omega, hdI⟩, Int.toNat_natCast, hI] at h1
      exact h1
    have HRL := Lib.hid hrs
    rw [hI] at hbfs
    have HDQ := Lib.hid hdq
    have HI := Lib.hid hI
    have HB := Lib.hid hbfs
    have HTL := Lib.hid hTl
    have hTlen := nodup_lt_len hTn hTl
    clear hbfs hTn hTl hI HTT hdq HR0 hrs HRS
    go_upto_region 3 with (fail)
    go_upto_region 6 with (fail)
    simp only [HNN.out, Nat.add_assoc, Nat.reduceAdd]
    obtain ⟨W1, hW1⟩ : ∃ W1, ((w.alloc (.map #[] 0)).alloc (.cells #[.map (some N)] 84)).alloc (.cells #[.slice none 0 0] 27) = W1 := ⟨_, rfl⟩
    rw [hW1]
    have hq1 : NatQ w W1 N 0 [] [] := by
      have hs := HNN.out
      have x1 : Ext (fun _ => False) (w.alloc (.map #[] 0)) W1 := by rw [← hW1]; exact ((Ext.refl _ _).alloc _).alloc _
      have m0 := SetK.made w
      rw [hs] at m0
      refine ⟨m0.ext x1 (fun h => h), ?_, ⟨.slice none 0 0, ?_, OwnQ.nil _ _⟩, ?_, hs⟩
      · rw [← hW1]; exact alloc_lt (alloc_eq (by simp [hs]))
      · rw [← hW1]; exact alloc_eq (by simp [hs])
      · rw [← hW1]; exact (((Ext.refl _ w).alloc _).alloc _).alloc _
    have HQ1 := Lib.hid hq1
    obtain ⟨t1, rb1, _⟩ := HKW.out W1 hq1.ext
    have c3 := t1.c2
    obtain ⟨aor, capr, dr, hrd⟩ := rb1.read hdn
    have HRD : Hid (∀ wr, Ext (N ≤ ·) w wr → ∀ (k u : Nat), (P hd)[k]? = some u → ∃ g, aor = some ⟨g, 0, none⟩ ∧ wr.cell? ⟨g, k, none⟩ = some (.int .i64 (u : Int))) := by
      intro wr hx k u hk
      obtain ⟨g, e1, e2, e3, e4⟩ := hrd k u hk
      refine ⟨g, e1, ?_⟩
      have hgn : g < w.heap.size := by have := HNN.out; omega
      rw [hx.cell (a := ⟨g, k, none⟩) hgn (by show ¬ N ≤ g; omega), ← HQ1.out.ext.cell (a := ⟨g, k, none⟩) hgn (by show ¬ N ≤ g; omega)]
      exact e4
    have HND2 : Hid (∀ (wr : World) (k : Nat) (S : List Int) (q' : List Nat), NatQ w wr N k S q' → ∀ x : Nat, x ≤ 100000 → k ≤ 100000 → q'.length ≤ 100000 → Calls Try.prog 75 #[.int .i64 (x : Int), .pointer (some ⟨N + 1, 0, none⟩), .pointer (some ⟨N + 2, 0, none⟩)] wr fun e w' => e = .returned (.tuple #[]) ∧ NAddP w wr N k S q' x w') :=
      fun wr k S q' h x h1 h2 h3 => nadd_calls w wr N k S q' h x h1 h2 h3
    clear hmm hmf hW1 hq1 t1 rb1 hrd c2
    go_wp2_with fail
    go_loopw [28] (fun c wr => ∃ (k : Nat) (S : List Int), k ≤ (P hd).length ∧ c = .int .i64 (k : Int) ∧ NatQ w wr N (todoStep [] (((P hd).take k).filter (f hd))).length S (todoStep [] (((P hd).take k).filter (f hd))) ∧ MS S (fun z => z ∈ todoStep [] (((P hd).take k).filter (f hd))) ∧ (todoStep [] (((P hd).take k).filter (f hd))).length ≤ k) (fun c _ => (P hd).length - (intOf c).toNat)
    case atStart => exact ⟨0, [], Nat.zero_le _, rfl, HQ1.out, MS.nil (fun y h => by simp [todoStep] at h), Nat.le_refl _⟩
    case round =>
      obtain ⟨k, S, hk, rfl, hns, hm, htl⟩ := hrel
      have hpn := HPN.out hd
      by_cases hkl : k < (P hd).length
      · have hkI : (k : Int) < ((P hd).length : Int) := by omega
        obtain ⟨u, hu⟩ : ∃ u, (P hd)[k]? = some u := ⟨_, List.getElem?_eq_getElem hkl⟩
        obtain ⟨gu, hgu, hcu⟩ := HRD.out wr hns.ext k u hu
        have hun : u < n := HPL.out hd u (List.mem_of_getElem? hu)
        have htk : ((P hd).take (k + 1)).filter (f hd) = if f hd u = true then ((P hd).take k).filter (f hd) ++ [u] else ((P hd).take k).filter (f hd) := by
          rw [List.take_add_one, hu, Option.toList_some, List.filter_append, List.filter_cons]
          split <;> simp
        obtain ⟨t, ht⟩ : ∃ t, todoStep [] (((P hd).take k).filter (f hd)) = t := ⟨_, rfl⟩
        have hts : todoStep [] (((P hd).take (k + 1)).filter (f hd)) = if f hd u = true ∧ u ∉ t then t ++ [u] else t := by
          rw [htk]
          by_cases h1 : f hd u = true
          · rw [if_pos h1, todoStep_snoc, ht]
            by_cases h2 : u ∈ t
            · rw [if_pos h2, if_neg (fun h => h.2 h2)]
            · rw [if_neg h2, if_pos ⟨h1, h2⟩]
          · rw [if_neg h1, ht, if_neg (fun h => h1 h.1)]
        rw [ht] at hns hm htl
        have HNS := Lib.hid hns
        have HM := Lib.hid hm
        have HTS := Lib.hid hts
        have HDC : Hid (Calls Try.prog 38 #[.pointer (some ⟨T, 0, none⟩), .int .i64 (hd : Int), .int .i64 (u : Int)] wr (DomsP o q (hd : Int) (u : Int) wr)) := HND.out wr hd u hns.ext
        subst hgu
        clear hns hm hts htk hu ht
        go_wp2_with fail
        go_at_call 38
        refine HDC.out.mono ?_
        rintro e w3 ⟨r, rfl, hr, kd, hw3⟩
        have hrf : r = f hd u := by
          rw [Bool.eq_iff_iff, hr, HF.out hd u hdn hun, inQ_nat, inQ_nat]
          simp only [decide_eq_true_eq, Int.toNat_natCast]
          exact ⟨fun h => ⟨h.2.1, h.2.2⟩, fun h => ⟨HDQ.out, h.1, h.2⟩⟩
        have HN3 : Hid (NatQ w w3 N t.length S t) := by rw [hw3]; exact HNS.out.below (below_drewN (Below.refl _ _) kd)
        rw [← hrf] at HTS
        clear hr hw3 hrf HDC
        cases r with
        | false =>
          have HE : Hid (todoStep [] (((P hd).take (k + 1)).filter (f hd)) = t) := by unfold Hid; rw [HTS.out, if_neg (fun h => by cases h.1)]
          go_wp2
          go_roundw
          case rel => exact ⟨k + 1, S, by omega, by go_num, by rw [HE.out]; exact HN3.out, by rw [HE.out]; exact HM.out, by rw [HE.out]; omega⟩
          case measure => simp [intOf]; omega
        | true =>
          have HAC := Lib.hid (HND2.out w3 t.length S t HN3.out u (by omega) (by omega) (by omega))
          go_wp2_with fail
          go_at_call 75
          refine HAC.out.mono ?_
          rintro e w4 ⟨rfl, hadd⟩
          have HNN4 : Hid (∃ S', NatQ w w4 N (todoStep [] (((P hd).take (k + 1)).filter (f hd))).length S' (todoStep [] (((P hd).take (k + 1)).filter (f hd))) ∧ MS S' (fun z => z ∈ todoStep [] (((P hd).take (k + 1)).filter (f hd))) ∧ (todoStep [] (((P hd).take (k + 1)).filter (f hd))).length ≤ k + 1) := by
            unfold Hid
            rw [HTS.out]
            unfold NAddP at hadd
            by_cases hm : u ∈ t
            · rw [if_neg (fun h => h.2 hm)]
              rw [if_pos ((HM.out.at u).2 hm)] at hadd
              rw [hadd]
              exact ⟨S, HN3.out, HM.out, by omega⟩
            · rw [if_pos ⟨by first | trivial | rfl, hm⟩]
              rw [if_neg (fun h => hm ((HM.out.at u).1 h))] at hadd
              refine ⟨_, by simpa using hadd, HM.out.cons u (fun y => by simp [or_comm]), by simp; omega⟩
          clear hadd HAC
          go_wp2
          go_roundw
          case rel => obtain ⟨S', r1, r2, r3⟩ := HNN4.out; exact ⟨k + 1, S', by omega, by go_num, r1, r2, r3⟩
          case measure => simp [intOf]; omega
      · have hke : k = (P hd).length := by omega
        subst hke
        have htI : todoStep [] (((P hd).take (P hd).length).filter (f hd)) = I := by rw [List.take_length, ← HI.out]; rfl
        rw [htI] at hns hm htl
        obtain ⟨v, tb, hoq⟩ := hns.tb
        obtain ⟨ao, L, cap, rfl, hL⟩ := hoq.isSlice
        have ct : wr.cell? ⟨N + 2, 0, none⟩ = some (.slice ao L cap) := by rw [cell_of_row _ _ _ _ _ _ tb]; rfl
        have cm : wr.cell? ⟨N + 1, 0, none⟩ = some (.map (some N)) := by rw [cell_of_row _ _ _ _ _ _ hns.mb]; rfl
        obtain ⟨W7, hup, h7⟩ := hns.add (x := (hd : Int)) (by omega) (by omega)
        have HNS := Lib.hid hns
        have H7 := Lib.hid h7
        have HM7 : Hid (MS ((hd : Int) :: S) (fun z => z ∈ I ∨ z = hd)) := hm.cons hd (fun y => or_comm)
        have hlI : ((L : Int) == 0) = decide (I = []) := by
          rw [hL]
          cases I with
          | nil => rfl
          | cons a l => simp; omega
        obtain ⟨d, hd0⟩ : ∃ d, decide (I = []) = d := ⟨_, rfl⟩
        rw [hd0] at hlI
        have HD0 := Lib.hid hd0
        clear hns h7 hm htI tb hoq hL hd0
        cases d with
        | true =>
          have HX : RS = [] := by
            rw [← HRL.out]
            exact if_pos (of_decide_eq_true HD0.out)
          subst HX
          have HE : Hid (Below N w wr) := (HKW.out wr HNS.out.ext).2.2
          go_wp2
          go_ret
          exact ⟨none, 0, rfl, OwnI.nil _ _, by rw [HNN.out]; exact HE.out⟩
        | false =>
          have HRS2 : Hid (RS = (List.range n).filter fun i => decide (i ∈ Tl ∨ i = hd)) := by
            unfold Hid
            rw [← HRL.out]
            exact if_neg (of_decide_eq_false HD0.out)
          go_wp2_with fail
          go_loopg [10] (n + 1) (fun g _ wr => ∃ (t : List Nat) (i : Nat) (S : List Int), bfs (succN P hd) g t i = some Tl ∧ i ≤ t.length ∧ NatQ w wr N (t.length + 1) S (t.drop i) ∧ MS S (fun z => z ∈ t ∨ z = hd))
          case atStart => exact ⟨I, 0, (hd : Int) :: S, HB.out, Nat.zero_le _, by simpa using H7.out, HM7.out⟩
          case round =>
            clear ct cm hup
            obtain ⟨t, i, S, hb, hit, hns, hm⟩ := hrel
            have hpre := bfs_prefix _ _ _ hb
            have htl := hpre.length_le
            obtain ⟨v, tb, hoq⟩ := hns.tb
            have ct : wr.cell? ⟨N + 2, 0, none⟩ = some v := by rw [cell_of_row _ _ _ _ _ _ tb]; rfl
            by_cases hil : i < t.length
            · obtain ⟨x, hx⟩ : ∃ x, t[i]? = some x := ⟨_, List.getElem?_eq_getElem hil⟩
              have hxn : x < n := HTL.out x (hpre.subset (List.mem_of_getElem? hx))
              have hxI : (x : Int) < (n : Int) := by omega
              have hdr : t.drop i = x :: t.drop (i + 1) := by
                rw [List.drop_eq_getElem_cons hil]
                congr 1
                rw [List.getElem?_eq_getElem hil] at hx
                exact Option.some.inj hx
              have hstep : ∃ g', gk = g' + 1 ∧ bfs (succN P hd) g' (todoStep t (succN P hd x)) (i + 1) = some Tl := by
                cases gk with
                | zero => simp [bfs] at hb
                | succ g' => exact ⟨g', rfl, by rw [bfs, hx] at hb; exact hb⟩
              obtain ⟨g', rfl, hb'⟩ := hstep
              rw [hdr] at hoq
              obtain ⟨gq, off, L2, cap2, rfl, hL2, hlc, hcx⟩ := hoq.shape
              have hpop : ∃ ao1, (∀ W : World, (Instr.slice 27 (.slice (some ⟨gq, off, none⟩) L2 cap2) (some (.int .i64 1)) none none).run Try.prog W = .ok (.slice ao1 (L2 - 1) (cap2 - 1)) W) ∧ OwnQ wr (N + 3) (.slice ao1 (L2 - 1) (cap2 - 1)) (t.drop (i + 1)) := by
                have hrun : ∀ W : World, (Instr.slice 27 (.slice (some ⟨gq, off, none⟩) L2 cap2) (some (.int .i64 1)) none none).run Try.prog W = .ok (.slice (if cap2 = 1 then some ⟨gq, off, none⟩ else some ⟨gq, off + 1, none⟩) (L2 - 1) (cap2 - 1)) W := by
                  intro W
                  have h1 := run_slice_l (P := Try.prog) W 27 (some ⟨gq, off, none⟩) L2 cap2 (by kernel_rfl) .i64 1 (by omega) (by omega)
                  rw [h1]
                  have h2 : (sizeOf (Try.prog.elem 27)).run Try.prog W = .ok 1 W := by kernel_rfl
                  rw [h2]
                  simp only [Result.andThen, sliced, Option.map_some, Addr.add_lit]
                  rfl
                by_cases hc1 : cap2 = 1
                · subst hc1
                  exact ⟨_, fun W => by rw [hrun W, if_pos rfl], hoq.pop0⟩
                · exact ⟨_, fun W => by rw [hrun W, if_neg hc1], hoq.pop⟩
              obtain ⟨ao1, hsl, hq1⟩ := hpop
              have hL0 : 0 < L2 := by omega
              have hlow := hns.low
              have cm : wr.cell? ⟨N + 1, 0, none⟩ = some (.map (some N)) := by rw [cell_of_row _ _ _ _ _ _ hns.mb]; rfl
              have fz : wr.frozen? ⟨N + 2, 0, none⟩ = false := frozen_of_row _ _ _ _ _ tb
              have hpt := hns.put (Ext.refl _ _) hq1
              obtain ⟨W8, hW8⟩ : ∃ W8, wr.setCell ⟨N + 2, 0, none⟩ (.slice ao1 (L2 - 1) (cap2 - 1)) = W8 := ⟨_, rfl⟩
              rw [hW8] at hpt
              obtain ⟨t8, rb8, _⟩ := HKW.out W8 hpt.ext
              have c8 := t8.c2
              obtain ⟨aor2, capr2, dr2, hrd2⟩ := rb8.read hxn
              have HRD2 : Hid (∀ wr, Ext (N ≤ ·) w wr → ∀ (k u : Nat), (P x)[k]? = some u → ∃ g, aor2 = some ⟨g, 0, none⟩ ∧ wr.cell? ⟨g, k, none⟩ = some (.int .i64 (u : Int))) := by
                intro wr' hx' k u hk
                obtain ⟨g, e1, e2, e3, e4⟩ := hrd2 k u hk
                refine ⟨g, e1, ?_⟩
                have hgn : g < w.heap.size := by have := HNN.out; omega
                rw [hx'.cell (a := ⟨g, k, none⟩) hgn (by show ¬ N ≤ g; omega), ← hpt.ext.cell (a := ⟨g, k, none⟩) hgn (by show ¬ N ≤ g; omega)]
                exact e4
              have HPT := Lib.hid hpt
              have HW8 := Lib.hid hW8
              have HNSt := Lib.hid hns
              have HMt := Lib.hid hm
              have HBt := Lib.hid hb'
              have HHX := Lib.hid hx
              clear hb hb' hns hm hpre hx hdr tb hoq hL2 hq1 hpt t8 rb8 hrd2 hW8
              by_cases hxh : x = hd
              · have hxe : ((x : Int) == (hd : Int)) = true := by rw [hxh]; simp
                have HBn : Hid (bfs (succN P hd) g' t (i + 1) = some Tl) := by
                  have h := HBt.out
                  have e : succN P hd x = [] := by unfold succN; rw [if_pos hxh]
                  rw [e] at h
                  exact h
                clear hxh c8 dr2
                go_wp2
                go_roundg g'
                case measure => omega
                case rel => rw [HW8.out]; exact ⟨t, i + 1, S, HBn.out, by omega, HPT.out, HMt.out⟩
              · have hxe : ((x : Int) == (hd : Int)) = false := by rw [beq_eq_false_iff_ne]; omega
                have HSX : Hid (succN P hd x = (P x).filter fun y => decide (y ≠ hd)) := by unfold Hid succN; rw [if_neg hxh]
                clear hxh
                go_upto_region 19 with (fail)
                rw [HW8.out]
                clear ct cm fz hcx hsl
                go_wp2_with fail
                go_loopw [64] (fun c wr2 => ∃ (k : Nat) (t' : List Nat) (S' : List Int), k ≤ (P x).length ∧ c = .int .i64 (k : Int) ∧ t' = todoStep t (((P x).take k).filter fun y => decide (y ≠ hd)) ∧ NatQ w wr2 N (t'.length + 1) S' (t'.drop (i + 1)) ∧ MS S' (fun z => z ∈ t' ∨ z = hd) ∧ t'.length ≤ t.length + k) (fun c _ => (P x).length - (intOf c).toNat)
                case atStart => exact ⟨0, t, S, Nat.zero_le _, rfl, rfl, HPT.out, HMt.out, by omega⟩
                case round =>
                  obtain ⟨k, t', S', hk, rfl, ht', hns, hm, htl'⟩ := hrel
                  have hpn2 := HPN.out x
                  by_cases hkl2 : k < (P x).length
                  · have hkI : (k : Int) < ((P x).length : Int) := by omega
                    obtain ⟨u, hu⟩ : ∃ u, (P x)[k]? = some u := ⟨_, List.getElem?_eq_getElem hkl2⟩
                    obtain ⟨gu, hgu, hcu⟩ := HRD2.out _ hns.ext k u hu
                    have hun : u < n := HPL.out x u (List.mem_of_getElem? hu)
                    have htk : ((P x).take (k + 1)).filter (fun y => decide (y ≠ hd)) = if u = hd then ((P x).take k).filter (fun y => decide (y ≠ hd)) else ((P x).take k).filter (fun y => decide (y ≠ hd)) ++ [u] := by
                      rw [List.take_add_one, hu, Option.toList_some, List.filter_append, List.filter_cons]
                      by_cases h : u = hd <;> simp [h]
                    have hle2 := (todoStep_keeps (((P x).take k).filter fun y => decide (y ≠ hd)) t).length_le
                    rw [← ht'] at hle2
                    have hdl : (t'.drop (i + 1)).length ≤ 100000 := by rw [List.length_drop]; omega
                    have HAC := Lib.hid (HND2.out _ (t'.length + 1) S' (t'.drop (i + 1)) hns u (by omega) (by omega) hdl)
                    have HTK := Lib.hid htk
                    have HT' := Lib.hid ht'
                    have HM2 := Lib.hid hm
                    have HN2 := Lib.hid hns
                    subst hgu
                    clear htk ht' hm hns hdl hu c8 dr2
                    go_wp2_with fail
                    go_at_call 75
                    refine HAC.out.mono ?_
                    rintro e w4 ⟨rfl, hadd⟩
                    have HNN4 : Hid (∃ (t2 : List Nat) (S2 : List Int), t2 = todoStep t (((P x).take (k + 1)).filter fun y => decide (y ≠ hd)) ∧ NatQ w w4 N (t2.length + 1) S2 (t2.drop (i + 1)) ∧ MS S2 (fun z => z ∈ t2 ∨ z = hd) ∧ t2.length ≤ t.length + (k + 1)) := by
                      unfold Hid
                      rw [HTK.out]
                      unfold NAddP at hadd
                      by_cases hum : u ∈ t' ∨ u = hd
                      · rw [if_pos ((HM2.out.at u).2 hum)] at hadd
                        rw [hadd]
                        refine ⟨t', S', ?_, HN2.out, HM2.out, by omega⟩
                        by_cases h : u = hd
                        · rw [if_pos h]; exact HT'.out
                        · rw [if_neg h, todoStep_snoc, ← HT'.out, if_pos (hum.resolve_right h)]
                      · rw [if_neg (fun h => hum ((HM2.out.at u).1 h))] at hadd
                        refine ⟨t' ++ [u], _, ?_, ?_, HM2.out.cons u (fun y => ?_), by simp; omega⟩
                        · rw [if_neg (fun h => hum (.inr h)), todoStep_snoc, ← HT'.out, if_neg (fun h => hum (.inl h))]
                        · rw [List.drop_append_of_le_length (by omega), List.length_append]
                          exact hadd
                        · rw [List.mem_append, List.mem_singleton]
                          exact ⟨fun h => h.elim (fun h => h.elim (fun h => .inr (.inl h)) .inl) (fun h => .inr (.inr h)), fun h => h.elim (fun h => .inl (.inr h)) (fun h => h.elim (fun h => .inl (.inl h)) .inr)⟩
                    clear hadd HAC
                    go_wp2
                    go_roundw
                    case rel => obtain ⟨t2, S2, r0, r1, r2, r3⟩ := HNN4.out; exact ⟨k + 1, t2, S2, by omega, by go_num, r0, r1, r2, r3⟩
                    case measure => simp [intOf]; omega
                  · have hke : k = (P x).length := by omega
                    subst hke
                    rw [List.take_length, ← HSX.out] at ht'
                    have hb2 := HBt.out
                    rw [← ht'] at hb2
                    have hle2 := (todoStep_keeps (succN P hd x) t).length_le
                    rw [← ht'] at hle2
                    have HNS2 := Lib.hid hns
                    have HM2 := Lib.hid hm
                    have HB2' := Lib.hid hb2
                    clear hns hm hb2 ht' c8 dr2
                    go_wp2
                    go_roundg g'
                    case measure => omega
                    case rel => exact ⟨t', i + 1, S', HB2'.out, by omega, HNS2.out, HM2.out⟩
            · have htT : Tl = t := by
                cases gk with
                | zero => simp [bfs] at hb
                | succ g' => rw [bfs, List.getElem?_eq_none (by omega)] at hb; exact (Option.some.inj hb).symm
              rw [List.drop_eq_nil_of_le (by omega)] at hoq
              obtain ⟨ao2, L2, cap2, rfl, hL2⟩ := hoq.isSlice
              have hL0 : L2 = 0 := by simpa using hL2
              subst hL0
              have hlow := hns.low
              have cm : wr.cell? ⟨N + 1, 0, none⟩ = some (.map (some N)) := by rw [cell_of_row _ _ _ _ _ _ hns.mb]; rfl
              have HNSt := Lib.hid hns
              have HMt := Lib.hid hm
              have HTT2 := Lib.hid htT
              obtain ⟨D, hown, hset⟩ := hns.map
              have hNw : N < wr.heap.size := by omega
              have HBW : Hid (Below N w wr) := (HKW.out wr hns.ext).2.2
              have HSN : Hid (∀ ks : List Int, ks.Nodup → (∀ z ∈ ks, z ∈ S) → ks.length ≤ n) := by
                intro ks h1 h2
                have h3 := nodup_len_int ks (ints (List.range n)) h1 (fun z hz => by
                  obtain ⟨y, rfl, hy⟩ := (hm z).1 (h2 z hz)
                  rw [mem_ints, List.mem_range]
                  rcases hy with hy | rfl
                  · exact HTL.out y (hpre.subset hy)
                  · exact hdn)
                simpa [ints] using h3
              have HOWN := Lib.hid hown
              have HSET := Lib.hid hset
              obtain ⟨RI, hRI⟩ : ∃ RI, wr.heap.size = RI := ⟨_, rfl⟩
              obtain ⟨nt, hnt⟩ : ∃ nt, t.length + 1 = nt := ⟨_, rfl⟩
              rw [hnt] at hown
              clear hb hns hm hpre htT tb hoq hL2 hset HOWN hnt
              go_wp2_with (first | (at_range; refine wpList_range_own _ rfl _ _ rfl _ _ setKeyedK Try.underlying84 (plainElem Try.prog 4) N nt D rfl hown ?_; intro w0 hrg0 hg0 hs0) | go_in)
              go_frame
              rw [hRI] at hrg0 hs0 ⊢
              have HK0 : Hid (KeysI wr w0 N RI nt D S (Maps.has D) (Maps.size D) [] (.slice none 0 0)) := by
                refine ⟨hrg0, World.ownsRow_nil _ _ _ _, by simp, fun z => ⟨fun h => by simp at h, fun h => ?_⟩, ?_, by omega⟩
                · have := HSET.out.has z h.1; rw [this] at h; exact absurd h.2 (by simp)
                · exact (Ext.of_grown (M := fun _ => False) hg0 (fun k hk => by cases hk)).below (by omega) (fun _ h => h.elim)
              clear hrg0 hg0 hs0 hown cm ct
              go_loopw [4] (fun v wq => ∃ (left : Lit → Bool) (cnt : Nat) (ks : List Int) (ao : Option Addr) (L cap : Nat), v = .slice ao L cap ∧ L = ks.length ∧ KeysI wr wq N RI nt D S left cnt ks (.slice ao L cap)) (fun _ wq => wq.rangeLeft N RI)
              case atStart => exact ⟨_, _, [], none, 0, 0, rfl, rfl, HK0.out⟩
              case round =>
                obtain ⟨left, cnt, ks, ao3, L3, cap3, rfl, hL3, hki⟩ := hrel
                have hrg := hki.rg
                have hkl3 := HSN.out ks hki.nodup (fun z hz => ((hki.mem z).1 hz).1)
                have HKI := Lib.hid hki
                have HL3 := Lib.hid hL3
                have hks := hki.size
                have hl60 : L3 ≤ 60 := by omega
                clear hki hL3
                go_wp2_with (first | (at_next; refine wpList_next_ranges _ rfl _ rfl 3 setKeyedK (plainElem Try.prog 4) (Value.int .i64) (fun c : BB => Value.bool c.b) (fun key kl hkey => by obtain ⟨x, rfl, _⟩ := Maps.keyOf_int_inv Try.underlying3 hkey; exact ⟨x, rfl⟩) (fun v y hv => by obtain ⟨x, rfl, _⟩ := plainElem_boolK Try.underlying4 hv; exact ⟨⟨x⟩, rfl⟩) N RI nt _ _ _ rfl hrg ?_ ?_) | go_in)
                · intro hc0 hl0
                  have hmem : ∀ z, z ∈ ks ↔ z ∈ S := fun z => (HKI.out.mem z).trans ⟨fun h => h.1, fun h => ⟨h, hl0 _⟩⟩
                  have hsort := sorted_keys (n := n) (p := fun i => decide (i ∈ Tl ∨ i = hd)) HKI.out.nodup (fun z => by
                    rw [hmem z, HMt.out z]
                    constructor
                    · rintro ⟨y, rfl, hy⟩
                      refine ⟨y, rfl, ?_, decide_eq_true (by rw [HTT2.out]; exact hy)⟩
                      rcases hy with hy | rfl
                      · exact HTL.out y (by rw [HTT2.out]; exact hy)
                      · exact hdn
                    · rintro ⟨y, rfl, _, hy⟩
                      exact ⟨y, rfl, by rw [← HTT2.out]; exact of_decide_eq_true hy⟩)
                  rw [← HRS2.out] at hsort
                  have hlen : RS.length = ks.length := by
                    have h1 := congrArg List.length hsort
                    rw [List.length_mergeSort, List.length_map] at h1
                    exact h1.symm
                  have hne : 0 < ks.length := List.length_pos_of_mem ((hmem (hd : Int)).2 ((HMt.out.at hd).2 (.inr rfl)))
                  rcases HKI.out.own.2 with ⟨_, h0⟩ | ⟨g, capg, cur, e1, e2, e3, e4, e5, e6, e7⟩
                  · omega
                  · cases e1
                    have hgl : g < wr.heap.size := (Array.getElem?_eq_some_iff.1 e3).1
                    have HSC := Lib.hid (sort_ints g 0 cap3 ks wr (holds_of_blockI e3 (by simpa using e7)) hgl (by omega))
                    have HROW : Hid (∀ (nn : Nat) (os : Array Obj), OwnI (Go.Sort.grow (Go.Sort.putRow (Value.int .i64) (Sort.ahead wr nn) g 0 (ks.mergeSort fun x y => decide (x ≤ y)).toArray) os) N (.slice (some ⟨g, 0, none⟩) RS.length cap3) (ints RS)) := by
                      intro nn os
                      have h1 := ownsRow_sortedI (w := wr) (base := N) (g := g) (cap := cap3) (n := nn) (e := 3) (os := os) (cur := cur) (ss := ks) (ts := ks.mergeSort fun x y => decide (x ≤ y)) (by rw [List.length_mergeSort]) (by omega) e3 e4 e5 e6
                      unfold OwnI
                      have e : (ints RS).length = ks.length := by rw [← hlen]; simp [ints]
                      rw [e, hlen]
                      rw [hsort] at h1
                      rw [hsort]
                      exact h1
                    have HBN : Hid (∀ (nn : Nat) (os : Array Obj), Below N w (Go.Sort.grow (Go.Sort.putRow (Value.int .i64) (Sort.ahead wr nn) g 0 (ks.mergeSort fun x y => decide (x ≤ y)).toArray) os)) := by
                      intro nn os
                      have h1 := HBW.out.trans (HKI.out.below.mono (by omega))
                      exact h1.trans ((Ext.of_grown (M := (N ≤ ·)) (grownBy_sortedI (w := wr) (g := g) (n := nn) (os := os) _) (fun k hk => .inl (by cases hk; show N ≤ g; omega))).below (by omega) (fun k hk => hk))
                    have HLEN := Lib.hid hlen
                    clear hrg hc0 hl0 hmem hsort hlen e3 e7
                    go_wp2_with fail
                    go_at_call 76
                    refine HSC.out.mono ?_
                    rintro e w9 ⟨rfl, nn, os, hw9⟩
                    go_wp2
                    go_ret
                    exact ⟨some ⟨g, 0, none⟩, cap3, by rw [HLEN.out]; rfl, by rw [HNN.out]; exact HROW.out nn os, by rw [HNN.out]; exact HBN.out nn os⟩
                · intro x c kl y1 y2 w1 cnt1 hkey hlx hv hat hrg1 hlt hg1 hs1 hen
                  obtain ⟨x', ex, rfl, hwx⟩ := Maps.keyOf_int_inv Try.underlying3 hkey
                  cases ex
                  have hown1 : w1.ownsRow (RI + 1) 3 1 (.slice ao3 L3 cap3) ks.length (ks.map (Value.int .i64)) := HKI.out.own.kept hg1 (.inr (fun e => by have := (HKI.out.own.lt RI e).1; omega))
                  have hlf : wr.rangeLeft N RI = cnt := hrg.left_eq
                  have HLF := Lib.hid hlf
                  have HOWN1 := Lib.hid hown1
                  have HG1 := Lib.hid (And.intro hrg1 (And.intro hg1 (And.intro hs1 (And.intro hlx hat))))
                  have HLT := Lib.hid hlt
                  obtain ⟨j0, hj0, hj1, hj2, hj3⟩ := info_parts info_int
                  have hs1' : RI + 1 ≤ w1.heap.size := by omega
                  clear hrg hrg1 hg1 hs1 hlx hat hv hkey hown1 hlf hlt hwx
                  have hL3 := HL3.out
                  subst hL3
                  go_wp2_with (at_builtin; refine wpList_append_lies _ rfl _ _ 27 rfl (RI + 1) 3 j0 (.int .i64 0) 1 8 Try.underlying27 hj0 hj1 hj2 hj3 rfl (by decide) _ ks.length _ rfl (ownsRow_below HOWN1.out ((Below.refl w1.heap.size w1).alloc (Nat.le_refl _) _)) ⟨w1.heap.size, 0, none⟩ 1 1 [.int .i64 x] rfl rfl (cells_new _ _ _) (by simp [Value.oneCell']) (by decide) ?c1 ?c2 ?c3 _ rfl ?_)
                  case c1 => unfold maxLen; omega
                  case c2 => omega
                  case c3 => first | omega | (rw [World.size_alloc]; omega)
                  intro g5 cap5 w5 hown5 hgrow5 _ _
                  have HK5 := Lib.hid (KeysI.step HKI.out HSET.out (by omega) HG1.out.2.2.2.1 HG1.out.2.2.2.2 HG1.out.1 HG1.out.2.1 HG1.out.2.2.1 hown5 hgrow5)
                  clear hown5 hgrow5 hen
                  go_wp2
                  go_roundw
                  case rel => exact ⟨_, cnt1, ks ++ [x], _, _, _, rfl, by simp, HK5.out⟩
                  case measure => rw [HK5.out.rg.left_eq, HLF.out]; exact HLT.out
end Go.Proofs.Ytpbkkajgcdahcaa
