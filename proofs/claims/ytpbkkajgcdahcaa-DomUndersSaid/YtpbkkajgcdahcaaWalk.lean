/- A walk through a code, as deep as it can. -/
import Derived.Test.YtpbkkajgcdahcaaWalkE
import Derived.Deep.LoopGhost
namespace Go.Proofs.Ytpbkkajgcdahcaa
open Go.RowKit

/-- Behind a walk. -/
def Walked (M L : List Nat) (J : List Nat → List Nat → (Nat → Prop) → World → Prop) (Jx : List Nat → World → Prop) (e : Ending) (W' : World) : Prop :=
  e = .returned (.tuple #[]) ∧ ((∃ C', J M L C' W') ∨ ∃ m, m <+: M ∧ Jx m W')

/-- What holds of the walk between two steps, at most k steps before its end. -/
def WOut (c : Cod) (met : Value) (N0 : Nat) (M L : List Nat) (J : List Nat → List Nat → (Nat → Prop) → World → Prop) (k : Nat) (W : World) : Prop :=
  ∃ (D C : Nat → Prop) (es : List Ent) (m l : List Nat), wlk (nextN c.ins) k (es.map Ent.key) m l = some (M, L) ∧ WS c met N0 D es m W ∧ J m l C W ∧ (∀ k, C k → ¬ D k) ∧ es.length ≤ m.length ∧ (∀ e ∈ es, ∀ y ∈ e.rest, y < c.ins.length)

theorem WS.stk0 {c : Cod} {met : Value} {N0 : Nat} {D : Nat → Prop} {m : List Nat} {W : World} (h : WS c met N0 D [] m W) : ∃ x cap, W.cell? ⟨N0 + 4, 0, none⟩ = some (.slice x 0 cap) := by
  obtain ⟨sv, h1, h2, _⟩ := h.stk
  have h3 : W.cell? ⟨N0 + 4, 0, none⟩ = some sv := by rw [cell_of_row _ _ _ _ _ _ h1]; rfl
  rcases h2.2 with ⟨e, _⟩ | ⟨g, cap, _, e, _⟩
  · exact ⟨none, 0, by rw [h3, e]⟩
  · exact ⟨_, cap, by rw [h3, e]; rfl⟩

set_option maxRecDepth 100000 in
set_option maxHeartbeats 4000000 in
theorem walk_calls (c : Cod) (at_ : Nat) (mf : Fn) (ma mc : Array Value) (left : Value) (J : List Nat → List Nat → (Nat → Prop) → World → Prop) (Jx : List Nat → World → Prop) (C0 : Nat → Prop) (w : World) (M L : List Nat) (k0 : Nat)
    (hins : InsRow w w.heap.size c.insA c.ins) (hat : at_ < c.ins.length) (hn : c.ins.length ≤ 90000) (hwlk : wlk (nextN c.ins) k0 [(at_, nextN c.ins at_)] [at_] [] = some (M, L)) (hM : M.length ≤ 90000) (hJ : J [] [] C0 w)
    (hJC : ∀ m l C W, J m l C W → ∀ k, C k → k < W.heap.size ∧ ∀ a, c.insA = some a → a.block ≠ k)
    (hst : ∀ m l C W W', J m l C W → Ext (fun k => w.heap.size ≤ k ∧ ¬ C k) W W' → J m l C W')
    (hmeet : ∀ (m l : List Nat) (x : Nat) C W, J m l C W → (m ++ [x]) <+: M → Meets Try.prog (.func mf ma mc) #[.int .i64 (x : Int)] W fun v W' => (v = .bool true ∧ ∃ C' : Nat → Prop, (∀ k, C' k → C k ∨ W.heap.size ≤ k) ∧ J (m ++ [x]) l C' W' ∧ Ext C W W') ∨ (v = .bool false ∧ Jx (m ++ [x]) W'))
    (hleft : ∀ (m l : List Nat) (x : Nat) C W, J m l C W → (l ++ [x]) <+: L → Meets Try.prog left #[.int .i64 (x : Int)] W fun _ W' => ∃ C' : Nat → Prop, (∀ k, C' k → C k ∨ W.heap.size ≤ k) ∧ J m (l ++ [x]) C' W' ∧ Ext C W W') :
    Calls Try.prog 52 #[.agg c.cells, .int .i64 (at_ : Int), .func mf ma mc, left] w (Walked M L J Jx) := by
  have HINS := Lib.hid hins
  have HW := Lib.hid hwlk
  have HJ := Lib.hid hJ
  have HJC := Lib.hid hJC
  have HS := Lib.hid hst
  have HM := Lib.hid hmeet
  have HL := Lib.hid hleft
  clear hins hwlk hJ hJC hst hmeet hleft
  obtain ⟨nm, par, varsA, nvars, varsC, rp, rto, rcl, fromA, nfrom, fromC, insA, insC, ins⟩ := c
  simp only at hat hn
  simp only [Cod.cells]
  obtain ⟨i0, hi, hz0, hz1, hz2⟩ := info_parts info_bool
  go_enter Try.func52, Try.ntmps52
  go_wp2_with fail
  refine wp_scope_straight ?_
  go_wp2_with (at_make; refine wpList_make_at rfl (.tmp 15) (.tmp 15) 34 rfl 4 i0 (.bool false) Try.underlying34 hi hz0 hz1 rfl .i64 .i64 _ _ ins.length rfl rfl rfl rfl (by rw [hz2]; omega) (by unfold maxLen; omega) ?_)
  go_wp2_with fail
  have hp := wlk_prefix _ _ _ _ HW.out
  obtain ⟨xi, hxi⟩ : ∃ xi, ins[at_]? = some xi := ⟨_, List.getElem?_eq_getElem hat⟩
  obtain ⟨cd, hcd⟩ : ∃ cd : Cod, cd = ⟨nm, par, varsA, nvars, varsC, rp, rto, rcl, fromA, nfrom, fromC, insA, insC, ins⟩ := ⟨_, rfl⟩
  have hws0 : WS cd (.func mf ma mc) w.heap.size (fun k => w.heap.size ≤ k ∧ k < w.heap.size + 5) [] [] (walkW cd (.func mf ma mc) w) := WS.start _ (by rw [hcd]; exact HINS.out)
  have hx0 : Ext (fun _ => False) w (walkW cd (.func mf ma mc) w) := walkW_ext _ _ _
  have hJ0 : J [] [] C0 (walkW cd (.func mf ma mc) w) := HS.out _ _ _ _ _ HJ.out (hx0.mono fun _ h => h.elim)
  have HE : Hid (∀ (D : Nat → Prop) (es : List Ent) (m l : List Nat) (x : Nat) (xi : Ins) (C : Nat → Prop) (W : World), WS cd (.func mf ma mc) w.heap.size D es m W → J m l C W → (∀ k, C k → ¬ D k) → ins[x]? = some xi → es.length ≤ 90000 → (m ++ [x]) <+: M →
      Calls Try.prog 77 #[.int .i64 (x : Int), .pointer (some ⟨w.heap.size + 3, 0, none⟩), .pointer (some ⟨w.heap.size + 4, 0, none⟩), .pointer (some ⟨w.heap.size, 0, none⟩), .pointer (some ⟨w.heap.size + 1, 0, none⟩)] W (Entered cd (.func mf ma mc) w.heap.size es m l x J (Jx (m ++ [x])))) := by
    intro D es m l x xi C W h1 h2 h3 h4 h5 h6
    exact enter_calls cd (.func mf ma mc) w.heap.size D es m l x xi J (Jx (m ++ [x])) C W h1 h2 h3 (by intro m l C W h k hk; have := HJC.out m l C W h k hk; rw [hcd]; exact this) HS.out (by rw [hcd]; exact h4) (by rw [hcd]; exact hn) h5 (fun C W hj => HM.out _ _ _ _ _ hj h6)
  have hE0 := HE.out _ _ _ _ at_ xi C0 _ hws0 hJ0 (fun k hk h => by have := (HJC.out _ _ _ _ HJ.out k hk).1; omega) hxi (by simp) (by simpa using hp.1)
  have HE0 := Lib.hid hE0
  clear hE0 hws0 hx0 hJ0
  unfold walkW at HE0
  rw [hcd] at HE0
  simp only [Cod.cells] at HE0
  simp only [Nat.add_assoc, Nat.reduceAdd]
  have HCD := Lib.hid hcd
  clear hcd hi hz0 hz1 hz2
  obtain ⟨N0, hN0⟩ : ∃ N0, w.heap.size = N0 := ⟨_, rfl⟩
  rw [hN0] at HE0 HE ⊢
  go_at_call 77
  refine HE0.out.mono ?_
  intro e W1 hent
  rcases hent with ⟨rfl, D, C, ao, cap, hws, hJ1, hCD⟩ | ⟨rfl, hJx⟩
  · rw [← HCD.out] at hws
    have HO : Hid (WOut cd (.func mf ma mc) N0 M L J k0 W1) := by
      refine ⟨D, C, _, _, _, ?_, hws, hJ1, hCD, by simp, ?_⟩
      · simpa [Ent.key, HCD.out] using HW.out
      · intro e he y hy
        simp only [List.mem_singleton] at he
        subst he
        exact nextN_lt hy
    clear hws hJ1 hCD HE0 HJ HW
    go_wp2
    refine wp_label ?_
    go_wp2
    go_loopg [] k0 (fun k wr => WOut cd (.func mf ma mc) N0 M L J k wr)
    case atStart => exact HO.out
    case round =>
      obtain ⟨D, C, es, m, l, hwl, hws, hJ1, hCD, hel, hry⟩ := hrel
      cases es with
      | nil =>
        obtain ⟨sx, sc, hs4⟩ := hws.stk0
        have HF : Hid (∃ C', J M L C' wr) := by
          cases gk with
          | zero => simp [wlk] at hwl
          | succ k => simp [wlk] at hwl; obtain ⟨rfl, rfl⟩ := hwl; exact ⟨C, hJ1⟩
        clear hwl hws hJ1 hCD hel hry HO
        go_wp2
        ((try simp only [Exit.inBlock, Exit.then]); (try rw [Exit.noGoto_ret]); (first | refine bodyPost_ret (results_none rfl _ _ _) rfl ?_ | refine bodyPost_end (results_none rfl _ _ _) rfl ?_))
        exact ⟨rfl, .inl HF.out⟩
      | cons e es =>
        obtain ⟨g, cap, htop⟩ := hws.top (by simp)
        obtain ⟨t1, t2, t3, t4, t5⟩ := htop.cells
        have hlen : es.length < 90000 := by
          have h1 := (wlk_prefix _ _ _ _ hwl).1.length_le
          simp at hel; omega
        have hgt : decide ((0 : Int) < (es.length : Int) + 1) = true := decide_eq_true (by omega)
        have hCD0 : Hid (∀ k, C k → ¬ D k) := hCD
        have HIN : Hid (WS cd (.func mf ma mc) N0 D (e :: es) m wr ∧ J m l C wr ∧ (∀ k, C k → ¬ D k) ∧ (e :: es).length ≤ m.length ∧ (∀ e' ∈ e :: es, ∀ y ∈ e'.rest, y < cd.ins.length) ∧ Top N0 D (e :: es) wr g cap ∧ wlk (nextN cd.ins) gk ((e :: es).map Ent.key) m l = some (M, L)) := ⟨hws, hJ1, hCD, hel, hry, htop, hwl⟩
        clear hws hJ1 hCD hel hry htop hwl HO
        obtain ⟨G, hG⟩ : ∃ G, G = gk := ⟨_, rfl⟩
        subst hG
        obtain ⟨W0, hW0⟩ : ∃ W0, W0 = wr := ⟨_, rfl⟩
        subst hW0
        go_wp2_with fail
        go_loopg [] G (fun k wr => k ≤ G ∧ ∃ r ao cp, WS cd (.func mf ma mc) N0 D (⟨e.at_, r, ao, cp⟩ :: es) m wr ∧ J m l C wr ∧ Top N0 D (⟨e.at_, r, ao, cp⟩ :: es) wr g cap ∧ wlk (nextN cd.ins) k ((e.at_, r) :: es.map Ent.key) m l = some (M, L) ∧ ∀ y ∈ r, y < cd.ins.length)
        case atStart => 
          obtain ⟨h1, h2, h3, h4, h5, h6, h7⟩ := HIN.out
          exact ⟨Nat.le_refl _, e.rest, e.ao, e.cap, h1, h2, h6, h7, fun y hy => h5 e (by simp) y hy⟩
        case round =>
          obtain ⟨hgk, r, ao, cp, hws, hJ1, htop, hwl, hry⟩ := hrel
          clear t1 t2 t3 t4 t5
          obtain ⟨G1, hG1⟩ : ∃ G1, G1 = gk := ⟨_, rfl⟩
          subst hG1
          obtain ⟨W2, hW2⟩ : ∃ W2, W2 = wr := ⟨_, rfl⟩
          subst hW2
          obtain ⟨t1, t2, t3, t4, t5⟩ := htop.cells
          simp only at t3 t4
          cases r with
          | nil =>
            have hk0 : ∃ k, G1 = k + 1 ∧ wlk (nextN cd.ins) k (es.map Ent.key) m (l ++ [e.at_]) = some (M, L) := by
              cases G1 with
              | zero => simp [wlk] at hwl
              | succ k => exact ⟨k, rfl, by simpa [wlk] using hwl⟩
            obtain ⟨k, rfl, hwl2⟩ := hk0
            have hlp := (wlk_prefix _ _ _ _ hwl2).2
            have HLM := Lib.hid (HL.out m l e.at_ C W2 hJ1 hlp)
            have HK : Hid (k < G ∧ WS cd (.func mf ma mc) N0 D (⟨e.at_, [], ao, cp⟩ :: es) m W2 ∧ Top N0 D (⟨e.at_, [], ao, cp⟩ :: es) W2 g cap ∧ wlk (nextN cd.ins) k (es.map Ent.key) m (l ++ [e.at_]) = some (M, L)) := ⟨by omega, hws, htop, hwl2⟩
            have HJ2 := Lib.hid hJ1
            clear hwl hwl2 hlp hws htop hJ1 hry
            simp only [List.length_nil] at t4
            go_upto_region 12 with (fail)
            refine (wpIn_wide (n := 0)).1 ?_
            refine wpIn_region_lit (wpListIn_ok rfl (by simp) left (w' := W2) (by simp [go_sem]) ?_)
            simp only [Act.put, List.setIfInBounds_toArray, List.set_cons_zero, List.set_cons_succ]
            refine wpListIn_ok rfl (by simp) (.pointer (some ⟨g, es.length * 2, none⟩)) (w' := W2) (by simp [go_sem]) ?_
            simp only [Act.put, List.setIfInBounds_toArray, List.set_cons_zero, List.set_cons_succ]
            refine wpListIn_ok rfl (by simp) (.pointer (some ⟨g, es.length * 2, none⟩)) (w' := W2) (by simp [go_sem]) ?_
            simp only [Act.put, List.setIfInBounds_toArray, List.set_cons_zero, List.set_cons_succ]
            refine wpListIn_ok rfl (by simp) (.pointer (some ⟨g, es.length * 2, none⟩)) (w' := W2) (by simp [go_sem]) ?_
            simp only [Act.put, List.setIfInBounds_toArray, List.set_cons_zero, List.set_cons_succ]
            refine wpListIn_ok rfl (by simp) (.int .i64 (e.at_ : Int)) (w' := W2) (by simp [go_sem, t3]) ?_
            simp only [Act.put, List.setIfInBounds_toArray, List.set_cons_zero, List.set_cons_succ]
            refine wpListIn_meets (fv := left) (args := #[.int .i64 (e.at_ : Int)]) rfl (.tmp 58) #[.tmp 62] _ rfl rfl (by simp [Act.eval]) HLM.out ?_
            intro v w3 hv
            simp only [Act.put, List.setIfInBounds_toArray, List.set_cons_zero, List.set_cons_succ]
            refine wpListIn_nil ?_
            obtain ⟨C', hC', hJ3, hx3⟩ := hv
            have HX3 := Lib.hid hx3
            have HC' := Lib.hid hC'
            have HJ3 := Lib.hid hJ3
            clear hx3 hC' hJ3 t1 t2 t3 t4 t5
            obtain ⟨hkG, hws, htop, hwl⟩ := HK.out
            have hM1 : ∀ k, D k → ¬ C k := fun k h h' => hCD0.out k h' h
            have hins0 : ∀ a, cd.ins ≠ [] → cd.insA = some a → ¬ C a.block := fun a _ ha h' => (HJC.out _ _ _ _ HJ2.out _ h').2 a (by rw [HCD.out] at ha; exact ha) rfl
            have hws3 := hws.ext HX3.out hM1 hins0
            have htop3 := htop.ext HX3.out hM1 (hws.dB 4 (by omega))
            obtain ⟨t1, t2, t3, t4, t5⟩ := htop3.cells
            have hcap : es.length ≤ cap := by obtain ⟨_, _, _, _, _, q, _⟩ := htop3; simp at q; omega
            have hpop := hws3.pop htop3
            have HP : Hid (WOut cd (.func mf ma mc) N0 M L J k (w3.setCell ⟨N0 + 4, 0, none⟩ (.slice (some ⟨g, 0, none⟩) es.length cap))) := by
              refine ⟨D, C', es, m, l ++ [e.at_], hwl, hpop.1, HS.out _ _ _ _ _ HJ3.out (hpop.2.mono fun q hq => ⟨by have := hws.lo q hq; omega, fun h => ?_⟩), fun q hq h => ?_, ?_, ?_⟩
              · rcases HC'.out q h with h | h
                · exact hM1 q hq h
                · have := hws.hi q hq; omega
              · rcases HC'.out q hq with h' | h'
                · exact hM1 q h h'
                · have := hws.hi q h; omega
              · have := HIN.out.2.2.2.1; simp at this; omega
              · exact fun e' he => HIN.out.2.2.2.2.1 e' (List.mem_cons_of_mem _ he)
            clear hws htop hws3 htop3 hpop hM1 hins0 HX3 HC' HJ3
            go_wp2
            go_roundg k
            case measure => exact hkG
            case rel => exact HP.out
          | cons y r =>
            have hyl : y < cd.ins.length := hry y (by simp)
            obtain ⟨hrc, hrd⟩ := hws.rests _ (List.mem_cons_self)
            obtain ⟨b, off, cur, hao, hDb, hcu, hcy⟩ := hrd (by simp)
            simp only at hao hrc
            subst hao
            have hc0 : W2.cell? ⟨b, off, none⟩ = some (.int .i64 (y : Int)) := by rw [cell_of_row _ _ _ _ _ _ hcu]; simpa using hcy 0 y (by simp)
            obtain ⟨ao', hao'⟩ : ∃ ao' : Option Addr, ao' = (if cp = 1 then some ⟨b, off, none⟩ else some ⟨b, off + 1, none⟩) := ⟨_, rfl⟩
            have hp1 := hws.pop1 htop rfl (ao' := ao') (fun hr0 => by
              rw [hao', if_neg]
              have : 0 < r.length := List.length_pos_iff.2 hr0
              simp at hrc; omega)
            obtain ⟨W3, hW3⟩ : ∃ W3, W2.setCell ⟨g, es.length * 2 + 1, none⟩ (.slice ao' r.length (cp - 1)) = W3 := ⟨_, rfl⟩
            rw [hW3] at hp1
            obtain ⟨hws3, htop3, hx3⟩ := hp1
            have hJ3 : J m l C W3 := HS.out _ _ _ _ _ hJ1 (hx3.mono fun q hq => ⟨by have := hws.lo q hq; omega, fun h => hCD0.out q h hq⟩)
            have hsv : W3.cell? ⟨N0 + 3, 0, none⟩ = some (.slice (some ⟨N0 + 2, 0, none⟩) cd.ins.length cd.ins.length) := by rw [cell_of_row _ _ _ _ _ _ hws3.seenv]; rfl
            have hsc : W3.cell? ⟨N0 + 2, y, none⟩ = some (.bool (decide (y ∈ m))) := by rw [cell_of_row _ _ _ _ _ _ hws3.seen]; exact seenCells_get m hyl
            have hrl : r.length + 1 ≤ cp := by simpa using hrc
            have hlc : cd.ins.length = ins.length := by rw [HCD.out]
            rw [hlc] at hsv hyl
            have hyi : (y : Int) < (ins.length : Int) := by omega
            have hgt0 : decide ((0 : Int) < (r.length : Int) + 1) = true := decide_eq_true (by omega)
            have h1c : (1 : Int) ≤ (r.length : Int) + 1 := by omega
            have HP3 : Hid (WS cd (.func mf ma mc) N0 D (⟨e.at_, r, ao', cp - 1⟩ :: es) m W3 ∧ Top N0 D (⟨e.at_, r, ao', cp - 1⟩ :: es) W3 g cap ∧ J m l C W3 ∧ (∀ z ∈ r, z < cd.ins.length) ∧ wlk (nextN cd.ins) G1 ((e.at_, y :: r) :: es.map Ent.key) m l = some (M, L)) :=
              ⟨hws3, htop3, hJ3, fun z hz => hry z (List.mem_cons_of_mem _ hz), hwl⟩
            have HAO := Lib.hid hao'
            have HW3 := Lib.hid hW3
            simp only [List.length_cons] at t4
            clear hws htop hJ1 hry hwl hrc hrd hcu hcy hDb hW3 hx3 hao' hws3 htop3 hJ3
            go_upto_region 10 with (fail)
            rw [← HAO.out, HW3.out]
            by_cases hym : y ∈ m
            · have hd : decide (y ∈ m) = true := decide_eq_true hym
              rw [hd] at hsc
              have HR : Hid (G1 - 1 < G1 ∧ wlk (nextN cd.ins) (G1 - 1) ((e.at_, r) :: es.map Ent.key) m l = some (M, L)) := by
                obtain ⟨_, _, _, _, hwl⟩ := HP3.out
                cases G1 with
                | zero => simp [wlk] at hwl
                | succ k => exact ⟨by omega, by simpa [wlk, hym] using hwl⟩
              clear hym hd
              go_wp2
              go_roundg (G1 - 1)
              case measure => exact HR.out.1
              case rel => obtain ⟨a1, a2, a3, a4, _⟩ := HP3.out; exact ⟨by have := HR.out.1; omega, r, ao', cp - 1, a1, a3, a2, HR.out.2, a4⟩
            · have hd : decide (y ∈ m) = false := decide_eq_false hym
              rw [hd] at hsc
              have HR : Hid (G1 - 1 < G1 ∧ wlk (nextN cd.ins) (G1 - 1) ((y, nextN cd.ins y) :: (e.at_, r) :: es.map Ent.key) (m ++ [y]) l = some (M, L)) := by
                obtain ⟨_, _, _, _, hwl⟩ := HP3.out
                cases G1 with
                | zero => simp [wlk] at hwl
                | succ k => exact ⟨by omega, by simpa [wlk, hym] using hwl⟩
              obtain ⟨a1, a2, a3, a4, _⟩ := HP3.out
              have hle := (wlk_prefix _ _ _ _ HR.out.2).1
              have hE1 := HE.out D (⟨e.at_, r, ao', cp - 1⟩ :: es) m l y ins[y] C W3 a1 a3 hCD0.out (List.getElem?_eq_getElem hyl) (by simp; omega) hle
              have HE1 := Lib.hid hE1
              clear hym hd hE1 hle a1 a2 a3 a4
              go_wp2_with fail
              go_at_call 77
              refine HE1.out.mono ?_
              intro e' W4 hent
              rcases hent with ⟨rfl, D', C', ao2, cap2, hws4, hJ4, hCD4⟩ | ⟨rfl, hJx⟩
              · have HO : Hid (WOut cd (.func mf ma mc) N0 M L J (G1 - 1) W4) := by
                  refine ⟨D', C', _, _, _, ?_, hws4, hJ4, hCD4, ?_, ?_⟩
                  · simpa [Ent.key] using HR.out.2
                  · have := HIN.out.2.2.2.1; simp at this ⊢; omega
                  · intro e' he z hz
                    rcases List.mem_cons.1 he with rfl | he
                    · exact nextN_lt hz
                    · rcases List.mem_cons.1 he with rfl | he
                      · exact HP3.out.2.2.2.1 z hz
                      · exact HIN.out.2.2.2.2.1 e' (List.mem_cons_of_mem _ he) z hz
                clear hws4 hJ4 hCD4 t1 t2 t3 t4 t5 hsv hsc hc0
                go_wp2
                go_roundg (G1 - 1)
                case measure => have := HR.out.1; omega
                case rel => exact HO.out
              · have HF : Hid (∃ m, m <+: M ∧ Jx m W4) := ⟨_, (wlk_prefix _ _ _ _ HR.out.2).1, hJx⟩
                clear t1 t2 t3 t4 t5 hsv hsc hc0 hJx
                go_wp2
                ((try simp only [Exit.inBlock, Exit.then]); (try rw [Exit.noGoto_ret]); (first | refine bodyPost_ret (results_none rfl _ _ _) rfl ?_ | refine bodyPost_end (results_none rfl _ _ _) rfl ?_))
                exact ⟨rfl, .inr HF.out⟩
  · go_wp2
    ((try simp only [Exit.inBlock, Exit.then]); (try rw [Exit.noGoto_ret]); (first | refine bodyPost_ret (results_none rfl _ _ _) rfl ?_ | refine bodyPost_end (results_none rfl _ _ _) rfl ?_))
    refine ⟨rfl, .inr ⟨[at_], ?_, hJx⟩⟩
    exact hp.1
end Go.Proofs.Ytpbkkajgcdahcaa
