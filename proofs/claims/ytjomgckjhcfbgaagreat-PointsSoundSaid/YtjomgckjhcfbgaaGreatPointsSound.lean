/- In any run of a right, short module each cell that a variable points to was made at a site of its set, and so of each field of each cell; any other module, or input, is answered by the example: the law answers true for any module, any bytes, any truths and any number. -/
import Derived.Test.YtjomgckjhcfbgaaGreatY0
import Derived.Test.YtjomgckjhcfbgaaGreatP0
import Derived.Test.YtjomgckjhcfbgaaGreatP6
namespace Go.Proofs.YtjomgckjhcfbgaaGreat
open Go.ChangeShapes Go.WideShapes Go.ChangeAt Go.RowKit Go.Deep

section
variable {H : Type} {enc : TypeId × Value → H} {w : World} {base : Nat} {spare : Nat → Bool} {held : Bool}
theorem okWide_sliceS {P : Program} {r : Reach} {b0 : Nat} {t e : TypeId} {v : Value} (ht : P.underlying t = some (.slice e)) (h : Value.okWide P w r b0 t v) : ∃ a n c, v = .slice a n c := by
  simp only [Value.okWide, ht, Cell.okWide] at h
  cases v <;> simp_all [Cell.ok]
theorem sliceCap {P : Program} {t e : TypeId} {fuel : Nat} {a : Option Addr} {n c : Nat} {x : DataW H × List MemPlace} (ht : P.underlying t = some (.slice e)) (h : DataW.trod enc P w base spare held fuel t [.slice a n c] = some x) : n ≤ c := by
  rcases open_slice ht h with ⟨e, _⟩ | ⟨a', len, cap, m, k, D, Pl, e, _, hl, _⟩
  · simp at e; omega
  · simp at e; omega
set_option maxRecDepth 100000 in
theorem open_bytesS {r : Reach} {b0 : Nat} {v : Value} {d : DataW H} {p : List MemPlace} (hv : Value.okWide Tryz.prog w r b0 71 v) (h : DataW.Trod enc Tryz.prog w base spare held 71 v d p) :
    ∃ ao n c, v = .slice ao n c ∧ BytesL w ao n c := by
  obtain ⟨a, n, c, rfl⟩ := okWide_sliceS Tryz.underlying71 hv
  obtain ⟨fuel, hf⟩ := h
  have hf' : DataW.trod enc Tryz.prog w base spare held fuel 71 [.slice a n c] = some (d, p) := by simpa [Value.cells] using hf
  have hc := sliceCap Tryz.underlying71 hf'
  obtain ⟨ao, xs, cap, e, _, hr, hq⟩ := open_row (fun z : Int => #[.int .u8 z]) (fun z => (Lit.int .u8 z).wf = true) 1 (by decide) Tryz.underlying71 (by kernel_rfl) (fun n cs x hx => by
    obtain ⟨z, rfl, _, hw⟩ := DataW.trod_int Tryz.underlying5 hx
    exact ⟨z, rfl, hw⟩) hf'
  obtain ⟨rfl, rfl, rfl⟩ : a = ao ∧ n = xs.length ∧ c = cap := by simpa using e
  refine ⟨a, _, c, rfl, hc, fun h0 => ?_⟩
  obtain ⟨b, o, e1, e2, e3⟩ := hr (fun q => h0 (by rw [q]; rfl))
  refine ⟨b, o, e1, e2, fun j hj => ?_⟩
  have hx := List.getElem?_eq_getElem hj
  have hw := hq _ (List.getElem_mem hj)
  simp only [Lit.wf, Bool.and_eq_true, decide_eq_true_eq] at hw
  refine ⟨xs[j], hw.1, ?_, ?_⟩
  · have h2 : xs[j] ≤ 255 := hw.2
    omega
  · have := e3 j _ hx 0 _ rfl
    simpa using this
set_option maxRecDepth 100000 in
theorem open_boolsS {r : Reach} {b0 : Nat} {v : Value} {d : DataW H} {p : List MemPlace} (hv : Value.okWide Tryz.prog w r b0 50 v) (h : DataW.Trod enc Tryz.prog w base spare held 50 v d p) :
    ∃ ao n c, v = .slice ao n c ∧ BoolsL w ao n := by
  obtain ⟨a, n, c, rfl⟩ := okWide_sliceS Tryz.underlying50 hv
  obtain ⟨fuel, hf⟩ := h
  have hf' : DataW.trod enc Tryz.prog w base spare held fuel 50 [.slice a n c] = some (d, p) := by simpa [Value.cells] using hf
  obtain ⟨ao, xs, cap, e, _, hr, _⟩ := open_row (fun z : Bool => #[.bool z]) (fun _ => True) 1 (by decide) Tryz.underlying50 (by kernel_rfl) (fun n cs x hx => by
    obtain ⟨z, rfl, _⟩ := DataW.trod_bool Tryz.underlying4 hx
    exact ⟨z, rfl, trivial⟩) hf'
  obtain ⟨rfl, rfl, rfl⟩ : a = ao ∧ n = xs.length ∧ c = cap := by simpa using e
  refine ⟨a, _, c, rfl, fun h0 => ?_⟩
  obtain ⟨b, o, e1, e2, e3⟩ := hr (fun q => h0 (by rw [q]; rfl))
  refine ⟨b, o, e1, e2, fun j hj => ?_⟩
  have := e3 j _ (List.getElem?_eq_getElem hj) 0 _ rfl
  exact ⟨xs[j], by simpa using this⟩
end

set_option maxRecDepth 100000 in
theorem pointsSound_lifted (os : Os) (started : os.Started) (H : Type) (enc : TypeId × Value → H) :
    ReturnsInHanded {} Tryz.checked os 7 .any (Rows.pointsSoundSpec.pre6 enc Tryz.prog Tryz.f7 Rows.pointsSoundRow.domain false) (Rows.pointsSoundSpec.post enc Tryz.prog Tryz.f7 false true false false) := by
  refine returnsInHanded_of_change (C := Tryz.checked) own_ started (by kernel_rfl) Tryz.func7
    (ChangeSpec.witness6 (enc := enc) (C := Tryz.checked) false ⟨#[], #[.agg #[.slice none 0 0, .slice none 0 0], .slice none 0 0, .slice none 0 0, .int .i64 0], []⟩ 8 (by kernel_rfl) (by kernel_rfl) (by kernel_rfl) (by kernel_rfl)) ?_
  intro W base args ds gs before hval0 hW hcnd _
  have hval : ∀ (j : Nat) t v, Tryz.f7.params[j]? = some t → args[j]? = some v → Value.okWide Tryz.prog W .any base t v := hval0
  have hW' := hW
  obtain ⟨p, q, hA0, hV, rfl, hfz, hnd⟩ := hW
  have hA : DataW.TrodAll enc Tryz.prog W 0 (fun _ => true) true Tryz.f7.params.toList args.toList ds p := hA0
  rw [Tryz.params7] at hA hval
  obtain ⟨v0, v1, v2, v3, d0, d1, d2, d3, p0, p1, p2, p3, rfl, rfl, rfl, h0, h1, h2, h3⟩ := trodAll_four hA
  obtain ⟨rfl, rfl⟩ := trodVars_none hV
  have hlt0 : ∀ x ∈ p0, x.block < W.heap.size := fun x hx => hW'.lt x (by simp [hx])
  have hlt1 : ∀ x ∈ p1, x.block < W.heap.size := fun x hx => hW'.lt x (by simp [hx])
  have hlt2 : ∀ x ∈ p2, x.block < W.heap.size := fun x hx => hW'.lt x (by simp [hx])
  have h0k := h0
  obtain ⟨m0, rfl, hin0, hwf0⟩ := open_moW (hval 0 25 v0 rfl rfl) h0
  have h1k := h1
  obtain ⟨ia, il, ic, rfl, hb1⟩ := open_bytesS (hval 1 71 v1 rfl rfl) h1
  have h2k := h2
  obtain ⟨fa, fl, fc, rfl, hb2⟩ := open_boolsS (hval 2 50 v2 rfl rfl) h2
  have h3k := h3
  obtain ⟨x3, rfl, rfl, rfl, wx3⟩ := open_int Tryz.underlying3 (hval 3 3 v3 rfl rfl) h3
  clear hA0 hval0
  simp only [List.append_nil] at hW'
  refine (pointsSound_calls m0 W ia fa il ic fl fc x3 hin0 hwf0 hb1 hb2).mono fun e W' ⟨he, hb⟩ => ?_
  subst he
  exact ⟨_, rfl, law_post (pa := p0 ++ (p1 ++ (p2 ++ []))) (pv := []) hW' (fun _ _ _ => trodAll_mk1 (shut_true true)) (trodAll_mk4 (Below.trod laidOut_ (by kernel_rfl) (of_decide_eq_true (by kernel_rfl)) h0k hb hlt0) (Below.trod laidOut_ (by kernel_rfl) (of_decide_eq_true (by kernel_rfl)) h1k hb hlt1) (Below.trod laidOut_ (by kernel_rfl) (of_decide_eq_true (by kernel_rfl)) h2k hb hlt2) (shut_int Tryz.underlying3 wx3)) rfl (by simp) hb⟩

theorem pointsSound_holds : Rows.PointsSoundSaid :=
  OpenClaim.holds_of_wide 7 Tryz.f7 rfl rfl rfl rfl rfl rfl rfl ⟨rfl, rfl, rfl, rfl, rfl⟩ rfl rfl rfl rfl rfl (by kernel_rfl) Tryz.func7 pointsSound_closed
    (of_decide_eq_true (by kernel_rfl)) (by unfold Func.isWrapper; first | (rw [if_pos (by decide +kernel)]; kernel_rfl) | (rw [if_neg (by decide +kernel)]; exact ⟨rfl, rfl⟩))
    (fun os started H enc _ => pointsSound_lifted os started H enc)
end Go.Proofs.YtjomgckjhcfbgaaGreat
