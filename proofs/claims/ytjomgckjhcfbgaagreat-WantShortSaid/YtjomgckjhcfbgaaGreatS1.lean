/- Walks. -/
import Derived.Laws.ResultCell
import Derived.Deep.WholeRow
import Derived.BigQuiet
import Derived.Maps.AppendAt
import Derived.Deep.QuietTactic
import Derived.Test.YtjomgckjhcfbgaaGreatS0
set_option maxRecDepth 100000
set_option maxHeartbeats 64000000
set_option linter.all false
namespace Go.Proofs.YtjomgckjhcfbgaaGreat
open Go.RowKit
open _root_.List renaming getElem?_eq_getElem→GN,getElem?_eq_some_iff→GQ,length_append→GU,mem_of_getElem?→GV,eq_nil_of_length_eq_zero→Hm,mem_singleton→Hq,append_assoc→Hr
open _root_.Array renaming getElem?_eq_some_iff→GR
open _root_.Nat renaming lt_of_lt_of_le→Hd,le_refl→He,zero_le→Hg
open _root_.Option renaming some.inj→Hl
open Go.World renaming size_alloc→Hu
open Go.RowKit.Below renaming refl→Hw,heap_alloc→Hy
open Go renaming heap_setCell_same→Hz,World→H5
open Go.RowKit renaming Below→H9,Hid→Ia
open Tryz
theorem aK {P:Program}{fn:Func}{p u:Tmp}{ty:TypeId}(h:fn.results=#[.cell p ty,.tmp u])(tmps:Array Value)(w:H5)(g:Nat)(t:TypeId)(cs:Array Value)(fr:Nat×Nat)(fs:Array Field)
  (hp:tmps.getD p undef= .pointer (some ⟨g,0,none⟩))(hg:w.heap[g]?=some (.cells cs t fr))
  (hu:P.underlying ty=some (.struct fs))(hi:(P.info? ty).map (·.size)=some cs.size):
  (results fn tmps).run P w= .ok (.tuple #[.agg cs,tmps.getD u undef]) w:=by
 rw[results_cell_tmp h,hp];have e:=run_loadVar_row w g t ty cs fr _ hg hu rfl hi;simp only[asAddr,Sem.run_pure,Result.andThen_ok,e]
theorem gN {P:Program}{fn:Func}{p u:Tmp}{ty:TypeId}(h:fn.results=#[.tmp u,.cell p ty])(tmps:Array Value)(w:H5)(g:Nat)(t:TypeId)(cs:Array Value)(fr:Nat×Nat)(fs:Array Field)
  (hp:tmps.getD p undef= .pointer (some ⟨g,0,none⟩))(hg:w.heap[g]?=some (.cells cs t fr))
  (hu:P.underlying ty=some (.struct fs))(hi:(P.info? ty).map (·.size)=some cs.size):
  (results fn tmps).run P w= .ok (.tuple #[tmps.getD u undef,.agg cs]) w:=by
 have e:=run_loadVar_row w g t ty cs fr _ hg hu rfl hi;simp only[results,h];simp only[Array.getD_eq_getD_getElem?] at hp;simp[Sem.run_bind,Result.andThen,hp,asAddr,e]
theorem cZ {P:Program}{fn:Func}{p u:Tmp}{ty ty2:TypeId}(h:fn.results=#[.cell p ty,.cell u ty2])(tmps:Array Value)(w:H5)(g g2:Nat)(t t2:TypeId)(cs cs2:Array Value)(fr fr2:Nat×Nat)(fs fs2:Array Field)
  (hp:tmps.getD p undef= .pointer (some ⟨g,0,none⟩))(hg:w.heap[g]?=some (.cells cs t fr))(hp2:tmps.getD u undef= .pointer (some ⟨g2,0,none⟩))(hg2:w.heap[g2]?=some (.cells cs2 t2 fr2))
  (hu:P.underlying ty=some (.struct fs))(hi:(P.info? ty).map (·.size)=some cs.size)(hu2:P.underlying ty2=some (.struct fs2))(hi2:(P.info? ty2).map (·.size)=some cs2.size):
  (results fn tmps).run P w= .ok (.tuple #[.agg cs,.agg cs2]) w:=by
 have e:=run_loadVar_row w g t ty cs fr _ hg hu rfl hi;have e2:=run_loadVar_row w g2 t2 ty2 cs2 fr2 _ hg2 hu2 rfl hi2;simp only[results,h];simp only[Array.getD_eq_getD_getElem?] at hp hp2;simp[Sem.run_bind,Result.andThen,hp,hp2,asAddr,e,e2]
theorem oV {N:Nat}{w W:H5}(h:H9 N w W)(n:Nat):H9 N w (W.drewN n):=⟨h.os,h.tape,h.output,h.size,h.block⟩
theorem bf {W:H5}{b:Nat}{x y u v:Value}{t:TypeId}(h:W.heap[b]?=some (.cells #[x,y] t (0,0))):((W.setCell ⟨b,0,none⟩ u).setCell ⟨b,1,none⟩ v).heap[b]?=some (.cells #[u,v] t (0,0)):=by
 have h1:=Hz W b 0 _ _ u h;have h2:=Hz _ b 1 _ _ v h1;simpa using h2
theorem iX {W:H5}{g:Nat}{a b c d u0 u1 u2 u3:Value}{t:TypeId}(h:W.heap[g]?=some (.cells #[a,b,c,d] t (0,0))):
  ((((W.setCell ⟨g,0,none⟩ u0).setCell ⟨g,1,none⟩ u1).setCell ⟨g,2,none⟩ u2).setCell ⟨g,3,none⟩ u3).heap[g]?=some (.cells #[u0,u1,u2,u3] t (0,0)):=by
 have h1:=Hz W g 0 _ _ u0 h;have h2:=Hz _ g 1 _ _ u1 h1;have h3:=Hz _ g 2 _ _ u2 h2;have h4:=Hz _ g 3 _ _ u3 h3;exact h4
theorem qB {N B:Nat}{w W:H5}(h:H9 N w W)(hB:N≤B)(u0 u1 u2 u3:Value):H9 N w ((((W.setCell ⟨B,0,none⟩ u0).setCell ⟨B,1,none⟩ u1).setCell ⟨B,2,none⟩ u2).setCell ⟨B,3,none⟩ u3):=
 (((h.setCell hB _).setCell hB _).setCell hB _).setCell hB _
theorem iY {W:H5}{g:Nat}{a b c d e u0 u1 u2 u3 u4:Value}{t:TypeId}(h:W.heap[g]?=some (.cells #[a,b,c,d,e] t (0,0))):
  (((((W.setCell ⟨g,0,none⟩ u0).setCell ⟨g,1,none⟩ u1).setCell ⟨g,2,none⟩ u2).setCell ⟨g,3,none⟩ u3).setCell ⟨g,4,none⟩ u4).heap[g]?=some (.cells #[u0,u1,u2,u3,u4] t (0,0)):=by
 have h1:=Hz W g 0 _ _ u0 h;have h2:=Hz _ g 1 _ _ u1 h1;have h3:=Hz _ g 2 _ _ u2 h2;have h4:=Hz _ g 3 _ _ u3 h3;have h5:=Hz _ g 4 _ _ u4 h4;exact h5
theorem fE {N B:Nat}{w W:H5}(h:H9 N w W)(hB:N≤B)(u0 u1 u2 u3 u4:Value):H9 N w (((((W.setCell ⟨B,0,none⟩ u0).setCell ⟨B,1,none⟩ u1).setCell ⟨B,2,none⟩ u2).setCell ⟨B,3,none⟩ u3).setCell ⟨B,4,none⟩ u4):=
 ((((h.setCell hB _).setCell hB _).setCell hB _).setCell hB _).setCell hB _
theorem rowAt {W:H5}{g:Nat}{cs:Array Value}{t:TypeId}(h:W.heap[g]?=some (.cells cs t (0,0)))(k:Nat){u:Value}(hu:cs[k]?=some u):W.cell? ⟨g,k,none⟩=some u∧W.frozen? ⟨g,k,none⟩=false:=
 ⟨by rw[cell_of_row _ _ _ _ _ _ h];exact hu,frozen_of_row _ _ _ _ _ h⟩
theorem ae {W:H5}{g:Nat}{o:Obj}(h:W.heap[g]?=some o):g<W.heap.size:=(GR.1 h).1
theorem fe {W:H5}{g:Nat}{a b c d e:Value}{t:TypeId}(h:W.heap[g]?=some (.cells #[a,b,c,d,e] t (0,0))):
  (W.cell? ⟨g,0,none⟩=some a∧W.cell? ⟨g,1,none⟩=some b∧W.cell? ⟨g,2,none⟩=some c∧W.cell? ⟨g,3,none⟩=some d∧W.cell? ⟨g,4,none⟩=some e)∧
  (W.frozen? ⟨g,0,none⟩=false∧W.frozen? ⟨g,1,none⟩=false∧W.frozen? ⟨g,2,none⟩=false∧W.frozen? ⟨g,3,none⟩=false∧W.frozen? ⟨g,4,none⟩=false)∧g<W.heap.size:=by
 refine⟨⟨?_, ?_, ?_, ?_, ?_⟩,⟨?_, ?_, ?_, ?_, ?_⟩,(GR.1 h).1⟩
 all_goals first|exact frozen_of_row _ _ _ _ _ h|(rw[cell_of_row _ _ _ _ _ _ h];rfl)
theorem lJ {W:H5}{g:Nat}{a b c d:Value}{t:TypeId}(h:W.heap[g]?=some (.cells #[a,b,c,d] t (0,0))):
  (W.cell? ⟨g,0,none⟩=some a∧W.cell? ⟨g,1,none⟩=some b∧W.cell? ⟨g,2,none⟩=some c∧W.cell? ⟨g,3,none⟩=some d)∧
  (W.frozen? ⟨g,0,none⟩=false∧W.frozen? ⟨g,1,none⟩=false∧W.frozen? ⟨g,2,none⟩=false∧W.frozen? ⟨g,3,none⟩=false)∧g<W.heap.size:=by
 refine⟨⟨?_, ?_, ?_, ?_⟩,⟨?_, ?_, ?_, ?_⟩,(GR.1 h).1⟩
 all_goals first|exact frozen_of_row _ _ _ _ _ h|(rw[cell_of_row _ _ _ _ _ _ h];rfl)
theorem bZ {W:H5}{g:Nat}{a b:Value}{t:TypeId}(h:W.heap[g]?=some (.cells #[a,b] t (0,0))):
  (W.cell? ⟨g,0,none⟩=some a∧W.cell? ⟨g,1,none⟩=some b)∧(W.frozen? ⟨g,0,none⟩=false∧W.frozen? ⟨g,1,none⟩=false)∧g<W.heap.size:=by
 refine⟨⟨?_, ?_⟩,⟨?_, ?_⟩,(GR.1 h).1⟩
 all_goals first|exact frozen_of_row _ _ _ _ _ h|(rw[cell_of_row _ _ _ _ _ _ h];rfl)
theorem F6 {w:H5}{b:Nat}{ty:TypeId}{x y:Value}(h:w.heap[b]?=some (.cells #[x,y] ty (0,0))):w.cell? ⟨b,0,none⟩=some x∧w.cell? ⟨b,1,none⟩=some y:=⟨(rowAt h 0 rfl).1,(rowAt h 1 rfl).1⟩
theorem FK {w:H5}{b:Nat}{ty:TypeId}{x0 x1 x2 x3 x4 x5 x6 x7 x8 x9 x10 x11 x12:Value}(h:w.heap[b]?=some (.cells #[x0,x1,x2,x3,x4,x5,x6,x7,x8,x9,x10,x11,x12] ty (0,0))):w.cell? ⟨b,0,none⟩=some x0∧w.cell? ⟨b,1,none⟩=some x1∧w.cell? ⟨b,2,none⟩=some x2∧w.cell? ⟨b,3,none⟩=some x3∧w.cell? ⟨b,4,none⟩=some x4∧w.cell? ⟨b,5,none⟩=some x5∧w.cell? ⟨b,6,none⟩=some x6∧w.cell? ⟨b,7,none⟩=some x7∧w.cell? ⟨b,8,none⟩=some x8∧w.cell? ⟨b,9,none⟩=some x9∧w.cell? ⟨b,10,none⟩=some x10∧w.cell? ⟨b,11,none⟩=some x11∧w.cell? ⟨b,12,none⟩=some x12:=⟨(rowAt h 0 rfl).1,(rowAt h 1 rfl).1,(rowAt h 2 rfl).1,(rowAt h 3 rfl).1,(rowAt h 4 rfl).1,(rowAt h 5 rfl).1,(rowAt h 6 rfl).1,(rowAt h 7 rfl).1,(rowAt h 8 rfl).1,(rowAt h 9 rfl).1,(rowAt h 10 rfl).1,(rowAt h 11 rfl).1,(rowAt h 12 rfl).1⟩
theorem aa {g k:Nat}{w w':H5}(h:Ext (·=g) w w')(u:Value):Ext (·=g) w (w'.setCell ⟨g,k,none⟩ u):=h.setCell (a:=⟨g,k,none⟩) (.inl rfl) u
theorem fO {W:H5}{g:Nat}{a0 a1 a2 a3 a4 a5 a6 u0 u1 u2 u3 u4 u5 u6:Value}{t:TypeId}(hg:W.heap[g]?=some (.cells #[a0,a1,a2,a3,a4,a5,a6] t (0,0))):
  (((((((W.setCell ⟨g,0,none⟩ u0).setCell ⟨g,1,none⟩ u1).setCell ⟨g,2,none⟩ u2).setCell ⟨g,3,none⟩ u3).setCell ⟨g,4,none⟩ u4).setCell ⟨g,5,none⟩ u5).setCell ⟨g,6,none⟩ u6).heap[g]?=some (.cells #[u0,u1,u2,u3,u4,u5,u6] t (0,0)):=by
 have h0:(W.setCell ⟨g,0,none⟩ u0).heap[g]?=some (.cells #[u0,a1,a2,a3,a4,a5,a6] t (0,0)):=Hz _ g 0 _ _ u0 hg;have h1:((W.setCell ⟨g,0,none⟩ u0).setCell ⟨g,1,none⟩ u1).heap[g]?=some (.cells #[u0,u1,a2,a3,a4,a5,a6] t (0,0)):=Hz _ g 1 _ _ u1 h0;have h2:(((W.setCell ⟨g,0,none⟩ u0).setCell ⟨g,1,none⟩ u1).setCell ⟨g,2,none⟩ u2).heap[g]?=some (.cells #[u0,u1,u2,a3,a4,a5,a6] t (0,0)):=Hz _ g 2 _ _ u2 h1;have h3:((((W.setCell ⟨g,0,none⟩ u0).setCell ⟨g,1,none⟩ u1).setCell ⟨g,2,none⟩ u2).setCell ⟨g,3,none⟩ u3).heap[g]?=some (.cells #[u0,u1,u2,u3,a4,a5,a6] t (0,0)):=Hz _ g 3 _ _ u3 h2;have h4:(((((W.setCell ⟨g,0,none⟩ u0).setCell ⟨g,1,none⟩ u1).setCell ⟨g,2,none⟩ u2).setCell ⟨g,3,none⟩ u3).setCell ⟨g,4,none⟩ u4).heap[g]?=some (.cells #[u0,u1,u2,u3,u4,a5,a6] t (0,0)):=Hz _ g 4 _ _ u4 h3;have h5:((((((W.setCell ⟨g,0,none⟩ u0).setCell ⟨g,1,none⟩ u1).setCell ⟨g,2,none⟩ u2).setCell ⟨g,3,none⟩ u3).setCell ⟨g,4,none⟩ u4).setCell ⟨g,5,none⟩ u5).heap[g]?=some (.cells #[u0,u1,u2,u3,u4,u5,a6] t (0,0)):=Hz _ g 5 _ _ u5 h4;have h6:(((((((W.setCell ⟨g,0,none⟩ u0).setCell ⟨g,1,none⟩ u1).setCell ⟨g,2,none⟩ u2).setCell ⟨g,3,none⟩ u3).setCell ⟨g,4,none⟩ u4).setCell ⟨g,5,none⟩ u5).setCell ⟨g,6,none⟩ u6).heap[g]?=some (.cells #[u0,u1,u2,u3,u4,u5,u6] t (0,0)):=Hz _ g 6 _ _ u6 h5;exact h6
theorem bV (W:H5)(g:Nat)(u0 u1 u2 u3 u4 u5 u6:Value):Ext (·=g) W (((((((W.setCell ⟨g,0,none⟩ u0).setCell ⟨g,1,none⟩ u1).setCell ⟨g,2,none⟩ u2).setCell ⟨g,3,none⟩ u3).setCell ⟨g,4,none⟩ u4).setCell ⟨g,5,none⟩ u5).setCell ⟨g,6,none⟩ u6):=by
 refine aa ?_ _;refine aa ?_ _;refine aa ?_ _;refine aa ?_ _;refine aa ?_ _;refine aa ?_ _;refine aa ?_ _;exact Ext.refl _ _
theorem ed {W:H5}{g:Nat}{a0 a1 a2 a3 a4 a5 a6:Value}{t:TypeId}(hg:W.heap[g]?=some (.cells #[a0,a1,a2,a3,a4,a5,a6] t (0,0))):
  (W.cell? ⟨g,0,none⟩=some a0∧W.cell? ⟨g,1,none⟩=some a1∧W.cell? ⟨g,2,none⟩=some a2∧W.cell? ⟨g,3,none⟩=some a3∧W.cell? ⟨g,4,none⟩=some a4∧W.cell? ⟨g,5,none⟩=some a5∧W.cell? ⟨g,6,none⟩=some a6)∧(W.frozen? ⟨g,0,none⟩=false∧W.frozen? ⟨g,1,none⟩=false∧W.frozen? ⟨g,2,none⟩=false∧W.frozen? ⟨g,3,none⟩=false∧W.frozen? ⟨g,4,none⟩=false∧W.frozen? ⟨g,5,none⟩=false∧W.frozen? ⟨g,6,none⟩=false)∧g<W.heap.size:=
 ⟨⟨(rowAt hg 0 rfl).1,(rowAt hg 1 rfl).1,(rowAt hg 2 rfl).1,(rowAt hg 3 rfl).1,(rowAt hg 4 rfl).1,(rowAt hg 5 rfl).1,(rowAt hg 6 rfl).1⟩,⟨(rowAt hg 0 rfl).2,(rowAt hg 1 rfl).2,(rowAt hg 2 rfl).2,(rowAt hg 3 rfl).2,(rowAt hg 4 rfl).2,(rowAt hg 5 rfl).2,(rowAt hg 6 rfl).2⟩,ae hg⟩
theorem kK {W:H5}{g:Nat}{a0 a1 a2 a3 a4 a5 a6 a7 a8 u0 u1 u2 u3 u4 u5 u6 u7 u8:Value}{t:TypeId}(hg:W.heap[g]?=some (.cells #[a0,a1,a2,a3,a4,a5,a6,a7,a8] t (0,0))):
  (((((((((W.setCell ⟨g,0,none⟩ u0).setCell ⟨g,1,none⟩ u1).setCell ⟨g,2,none⟩ u2).setCell ⟨g,3,none⟩ u3).setCell ⟨g,4,none⟩ u4).setCell ⟨g,5,none⟩ u5).setCell ⟨g,6,none⟩ u6).setCell ⟨g,7,none⟩ u7).setCell ⟨g,8,none⟩ u8).heap[g]?=some (.cells #[u0,u1,u2,u3,u4,u5,u6,u7,u8] t (0,0)):=by
 have h0:(W.setCell ⟨g,0,none⟩ u0).heap[g]?=some (.cells #[u0,a1,a2,a3,a4,a5,a6,a7,a8] t (0,0)):=Hz _ g 0 _ _ u0 hg;have h1:((W.setCell ⟨g,0,none⟩ u0).setCell ⟨g,1,none⟩ u1).heap[g]?=some (.cells #[u0,u1,a2,a3,a4,a5,a6,a7,a8] t (0,0)):=Hz _ g 1 _ _ u1 h0;have h2:(((W.setCell ⟨g,0,none⟩ u0).setCell ⟨g,1,none⟩ u1).setCell ⟨g,2,none⟩ u2).heap[g]?=some (.cells #[u0,u1,u2,a3,a4,a5,a6,a7,a8] t (0,0)):=Hz _ g 2 _ _ u2 h1;have h3:((((W.setCell ⟨g,0,none⟩ u0).setCell ⟨g,1,none⟩ u1).setCell ⟨g,2,none⟩ u2).setCell ⟨g,3,none⟩ u3).heap[g]?=some (.cells #[u0,u1,u2,u3,a4,a5,a6,a7,a8] t (0,0)):=Hz _ g 3 _ _ u3 h2;have h4:(((((W.setCell ⟨g,0,none⟩ u0).setCell ⟨g,1,none⟩ u1).setCell ⟨g,2,none⟩ u2).setCell ⟨g,3,none⟩ u3).setCell ⟨g,4,none⟩ u4).heap[g]?=some (.cells #[u0,u1,u2,u3,u4,a5,a6,a7,a8] t (0,0)):=Hz _ g 4 _ _ u4 h3;have h5:((((((W.setCell ⟨g,0,none⟩ u0).setCell ⟨g,1,none⟩ u1).setCell ⟨g,2,none⟩ u2).setCell ⟨g,3,none⟩ u3).setCell ⟨g,4,none⟩ u4).setCell ⟨g,5,none⟩ u5).heap[g]?=some (.cells #[u0,u1,u2,u3,u4,u5,a6,a7,a8] t (0,0)):=Hz _ g 5 _ _ u5 h4;have h6:(((((((W.setCell ⟨g,0,none⟩ u0).setCell ⟨g,1,none⟩ u1).setCell ⟨g,2,none⟩ u2).setCell ⟨g,3,none⟩ u3).setCell ⟨g,4,none⟩ u4).setCell ⟨g,5,none⟩ u5).setCell ⟨g,6,none⟩ u6).heap[g]?=some (.cells #[u0,u1,u2,u3,u4,u5,u6,a7,a8] t (0,0)):=Hz _ g 6 _ _ u6 h5;have h7:((((((((W.setCell ⟨g,0,none⟩ u0).setCell ⟨g,1,none⟩ u1).setCell ⟨g,2,none⟩ u2).setCell ⟨g,3,none⟩ u3).setCell ⟨g,4,none⟩ u4).setCell ⟨g,5,none⟩ u5).setCell ⟨g,6,none⟩ u6).setCell ⟨g,7,none⟩ u7).heap[g]?=some (.cells #[u0,u1,u2,u3,u4,u5,u6,u7,a8] t (0,0)):=Hz _ g 7 _ _ u7 h6;have h8:(((((((((W.setCell ⟨g,0,none⟩ u0).setCell ⟨g,1,none⟩ u1).setCell ⟨g,2,none⟩ u2).setCell ⟨g,3,none⟩ u3).setCell ⟨g,4,none⟩ u4).setCell ⟨g,5,none⟩ u5).setCell ⟨g,6,none⟩ u6).setCell ⟨g,7,none⟩ u7).setCell ⟨g,8,none⟩ u8).heap[g]?=some (.cells #[u0,u1,u2,u3,u4,u5,u6,u7,u8] t (0,0)):=Hz _ g 8 _ _ u8 h7;exact h8
theorem kL (W:H5)(g:Nat)(u0 u1 u2 u3 u4 u5 u6 u7 u8:Value):Ext (·=g) W (((((((((W.setCell ⟨g,0,none⟩ u0).setCell ⟨g,1,none⟩ u1).setCell ⟨g,2,none⟩ u2).setCell ⟨g,3,none⟩ u3).setCell ⟨g,4,none⟩ u4).setCell ⟨g,5,none⟩ u5).setCell ⟨g,6,none⟩ u6).setCell ⟨g,7,none⟩ u7).setCell ⟨g,8,none⟩ u8):=by
 refine aa ?_ _;refine aa ?_ _;refine aa ?_ _;refine aa ?_ _;refine aa ?_ _;refine aa ?_ _;refine aa ?_ _;refine aa ?_ _;refine aa ?_ _;exact Ext.refl _ _
theorem fq {W:H5}{g:Nat}{a0 a1 a2 a3 a4 a5 a6 a7 a8:Value}{t:TypeId}(hg:W.heap[g]?=some (.cells #[a0,a1,a2,a3,a4,a5,a6,a7,a8] t (0,0))):
  (W.cell? ⟨g,0,none⟩=some a0∧W.cell? ⟨g,1,none⟩=some a1∧W.cell? ⟨g,2,none⟩=some a2∧W.cell? ⟨g,3,none⟩=some a3∧W.cell? ⟨g,4,none⟩=some a4∧W.cell? ⟨g,5,none⟩=some a5∧W.cell? ⟨g,6,none⟩=some a6∧W.cell? ⟨g,7,none⟩=some a7∧W.cell? ⟨g,8,none⟩=some a8)∧(W.frozen? ⟨g,0,none⟩=false∧W.frozen? ⟨g,1,none⟩=false∧W.frozen? ⟨g,2,none⟩=false∧W.frozen? ⟨g,3,none⟩=false∧W.frozen? ⟨g,4,none⟩=false∧W.frozen? ⟨g,5,none⟩=false∧W.frozen? ⟨g,6,none⟩=false∧W.frozen? ⟨g,7,none⟩=false∧W.frozen? ⟨g,8,none⟩=false)∧g<W.heap.size:=
 ⟨⟨(rowAt hg 0 rfl).1,(rowAt hg 1 rfl).1,(rowAt hg 2 rfl).1,(rowAt hg 3 rfl).1,(rowAt hg 4 rfl).1,(rowAt hg 5 rfl).1,(rowAt hg 6 rfl).1,(rowAt hg 7 rfl).1,(rowAt hg 8 rfl).1⟩,⟨(rowAt hg 0 rfl).2,(rowAt hg 1 rfl).2,(rowAt hg 2 rfl).2,(rowAt hg 3 rfl).2,(rowAt hg 4 rfl).2,(rowAt hg 5 rfl).2,(rowAt hg 6 rfl).2,(rowAt hg 7 rfl).2,(rowAt hg 8 rfl).2⟩,ae hg⟩
section
variable {P:Program}{ops:Array Oper}{Q:Exit→Act→H5→Prop}{md:Region.Mode}{S:H5→Prop}{k:Nat}
theorem kM {i j:Nat}{oi oj:Oper}{fuel:Nat}{listed:Array Bool}{a:Act}{w:H5}(hr:Region.ready md ops listed=[i,j])(hik:i≠k)(hjk:j≠k)(hoi:ops[i]?=some oi)(hoj:ops[j]?=some oj)
  (hi:∀K':Act→H5→Prop,(∀a w,S w→dh P md ops Q S k fuel (listed.setIfInBounds i true) a w→K' a w)→if Region.wanted oi (yielded ops a.tmps)=true then Oper.wp P oi a w K' Q else K' (a.put oi.dst undef) w)
  (hj:∀K':Act→H5→Prop,(∀a w,S w→dh P md ops Q S k fuel (listed.setIfInBounds j true) a w→K' a w)→if Region.wanted oj (yielded ops a.tmps)=true then Oper.wp P oj a w K' Q else K' (a.put oj.dst undef) w):
  dh P md ops Q S k (fuel+1) listed a w:=by
 refine⟨fun h0=>(by rw[hr] at h0;cases h0),fun z hz=> ?_⟩;rw[hr] at hz;rcases List.mem_cons.1 hz with rfl|hz
 ·simp only[if_neg hik]
  exact wpOp_step hoi (fun K' hK=>hi K' (fun a w hS hW=>hK a w ⟨hS,hW⟩))
 ·obtain rfl:=Hq.1 hz
  simp only[if_neg hjk];exact wpOp_step hoj (fun K' hK=>hj K' (fun a w hS hW=>hK a w ⟨hS,hW⟩))
end
structure BW (W:H5) where
 w:H5
 h:H9 W.heap.size W w
instance {W:H5}:Inhabited (BW W):=⟨⟨W,Hw _ _⟩⟩
theorem mD {P:Program}{id:Nat}{Q:Exit→Act→H5→Prop}{a:Act}{W:H5}{l:List Oper}(hm:P.follows .mixedOrders=true)(hB:Region.lexB .any l.toArray=true)
  (h:wpQuiet P l.toArray (fun w'=>∃p:BW W,w'=p.w) (fun a'=>∀w',(∃p:BW W,w'=p.w)→Q .normal a' w') l a):(Code.region id l.toArray true).wp P Q a W:=
 wp_region_quiet (C:=fun w'=>∃p:BW W,w'=p.w) hm hB ⟨⟨W.drew,(Hw _ _).drew⟩,rfl⟩ (by simpa using h)
theorem zQ {P:Program}{id:Nat}{Q:Exit→Act→H5→Prop}{a:Act}{W:H5}{l:List Oper}
  (h:wpQuiet P l.toArray (fun w'=>∃p:BW W,w'=p.w) (fun a'=>∀w',(∃p:BW W,w'=p.w)→Q .normal a' w') l a)
  (hm:P.follows .mixedOrders=true:=by kernel_rfl)(hB:Region.lexB .any l.toArray=true:=by kernel_rfl):(Code.region id l.toArray true).wp P Q a W:=
 mD hm hB h
theorem bg {P:Program}{f:FuncId}{args:Array Value}{W:H5}{p:BW W}{v:Value}(h:Calls P f args p.w fun e w'=>e= .returned v∧H9 p.w.heap.size p.w w'):
  Calls P f args p.w fun e w''=>e= .returned v∧∃q:BW W,w''=q.w:=
 h.mono fun _ w' ⟨he,hb⟩=>⟨he,⟨w',p.h.trans (hb.mono p.h.size)⟩,rfl⟩
theorem jo {P:Program}{f:FuncId}{args:Array Value}{W:H5}{p:BW W}{v:Value}(h:Calls P f args p.w fun e w'=>e= .returned v∧p.w=w'):
  Calls P f args p.w fun e w''=>e= .returned v∧∃q:BW W,w''=q.w:=
 h.mono fun _ _ ⟨he,hb⟩=>⟨he,p,hb.symm⟩
theorem run_append_nil {P:Program}(w:H5)(base:Nat)(t ty e:TypeId)(i:TypeInfo)(size:Nat)(ht:P.underlying t=some (.slice e))(hi:P.info? e=some i)
  (v:Value)(n:Nat)(xs:List Value)(hown:w.ownsRow base e size v n xs)(c:Nat):(Builtin.append_ #[t,t] ty #[v,.slice none 0 c]).run P w= .ok v w:=by
 rcases hown.2 with⟨rfl,rfl⟩|⟨g,cap,cur,rfl,_,_,hnc,_⟩
 ·simp[Builtin.append_,run_underlying ht,sizeOf,typeInfo,hi,Builtin.lenOf,Builtin.firstCells]
 ·simp[Builtin.append_,run_underlying ht,sizeOf,typeInfo,hi,Builtin.lenOf,Builtin.firstCells,hnc,storeCells]
theorem mU {P:Program}{w:H5}{ops:Array Oper}{rest:List Oper}{o:Oper}{a:Act}{Q:Exit→Act→H5→Prop}(hgd:o.guard=none)(s x:Operand)(t:TypeId)
  (ho:o.op= .call {callee:= .builtin .append,args:=#[s,x],argTypes:=#[t,t]})(base:Nat)(e:TypeId)(i:TypeInfo)(z:Value)(size bytes:Nat)(ht:P.underlying t=some (.slice e))(hi:P.info? e=some i)(hz:i.zero=some z)
  (hsize:i.size=size)(hby:i.bytes=bytes)(hzs:z.cells.size=size)(hsz:0<size)
  (v:Value)(n:Nat)(xs:List Value)(hs:a.eval s=v)(hown:w.ownsRow base e size v n xs)
  (ao:Option Addr)(m c:Nat)(news:List Value)(hx:a.eval x= .slice ao m c)(hl:news.length=m*size)(hnone:ao=none→m=0)(hnews:∀ad,ao=some ad→∀j u,news[j]?=some u→w.cell? (ad.add j)=some u)(h1:∀u∈news,u.oneCell'=true)
  (h63:n+m≤maxLen)(hbytes:(n+m)*bytes≤140737488355328)(hbase:base≤w.heap.size)
  (h:∀v' w',w'.ownsRow base e size v' (n+m) (xs++news)→w.grownBy w' v.ownBlock→(∀k,v'.ownBlock=some k→v.ownBlock=some k∨w.heap.size≤k)→wpList P ops Q rest (a.put o.dst v') w'):wpList P ops Q (o::rest) a w:=by
 refine wpList_plain hgd fun K hK=> ?_;have hrun:∃v' w',(Builtin.append_ #[t,t] o.type #[v,.slice ao m c]).run P w= .ok v' w'∧w'.ownsRow base e size v' (n+m) (xs++news)∧w.grownBy w' v.ownBlock∧(∀k,v'.ownBlock=some k→v.ownBlock=some k∨w.heap.size≤k):=by
  cases ao with
  |none=>
   obtain rfl:=hnone rfl;have hn:news=[]:=Hm (by omega);subst hn;exact⟨v,w,run_append_nil w base t o.type e i size ht hi v n xs hown c,by simpa using hown,World.grownBy.refl w _,fun k hk=> .inl hk⟩
  |some ad=>
   obtain⟨v',w',r1,r2,r3,_,r5⟩:=run_append_own_at w base t o.type e i z size bytes ht hi hz hsize hby hzs hsz v n xs hown ad m c news hl (hnews ad rfl) h1 h63 hbytes hbase;refine⟨v',w',r1,r2,r3,fun k hk=> ?_⟩;rcases r5 with r5|r5
   ·exact .inl (by rw[←r5];exact hk)
   ·right;rw[r5] at hk;simp at hk;omega
 obtain⟨v',w',r1,r2,r3,r4⟩:=hrun;unfold Oper.wp;simp[execOp,ho,resolve,invoke,builtin,hs,hx,r1,Result.andThen];exact hK _ _ (h _ _ r2 r3 r4)
theorem jB (w:H5)(e:TypeId)(size base:Nat)(hb:base≤w.heap.size):(w.alloc (.cells #[] e)).ownsRow base e size (.slice (some ⟨w.heap.size,0,none⟩) 0 0) 0 []:=
 World.ownsRow_made w #[] 0 hb (by unfold maxLen;omega) (by simp)
theorem ai {w:H5}{base:Nat}{e:TypeId}{size n:Nat}{v:Value}{xs:List Value}(h:w.ownsRow base e size v n xs){k:Nat}(hk:v.ownBlock=some k):base≤k∧k<w.heap.size:=h.lt k hk
theorem ah {w w':H5}{base:Nat}{e:TypeId}{size n:Nat}{v:Value}{xs:List Value}{M:Nat→Prop}(h:w.ownsRow base e size v n xs)(hx:Ext M w w')(hM:∀k,v.ownBlock=some k→¬M k):w'.ownsRow base e size v n xs:=by
 refine⟨h.1, ?_⟩;rcases h.2 with h'|⟨g,cap,cur,e1,e2,e3,e4⟩
 ·exact .inl h'
 ·refine .inr ⟨g,cap,cur,e1,e2,hx.heap e3 (hM g (by rw[e1];rfl)),e4⟩
theorem aD {w:H5}{base m sz:Nat}{e:TypeId}{v:Value}{xs:List Value}(h:w.ownsRow base e sz v m xs):∃ao cap,v= .slice ao m cap:=by
 rcases h.2 with⟨h1,h2⟩|⟨g,cap,cur,h1,_⟩
 ·exact⟨none,0,by rw[h2];exact h1⟩
 ·exact⟨_,_,h1⟩
theorem jq {P:Program}{W:H5}{ops:Array Oper}{rest:List Oper}{o:Oper}{a:Act}{Q:Exit→Act→H5→Prop}(hgd:o.guard=none)(s x:Operand)(t:TypeId)
  (ho:o.op= .call {callee:= .builtin .append,args:=#[s,x],argTypes:=#[t,t]})(base:Nat)(e:TypeId)(i:TypeInfo)(z:Value)(size bytes:Nat)(ht:P.underlying t=some (.slice e))(hi:P.info? e=some i)(hz:i.zero=some z)
  (hsize:i.size=size)(hby:i.bytes=bytes)(hzs:z.cells.size=size)(hsz:0<size)
  (v:Value)(n:Nat)(xs:List Value)(hs:a.eval s=v)(hown:W.ownsRow base e size v n xs)
  (B:Nat)(cs:Array Value)(hB:B=W.heap.size)(hx:a.eval x= .slice (some ⟨B,0,none⟩) 1 1)(hcs:cs.size=size)(h1:∀u∈cs.toList,u.oneCell'=true)
  (h63:n+1≤maxLen)(hbytes:(n+1)*bytes≤140737488355328)(hbase:base≤W.heap.size)
  (h:∀v' w',w'.ownsRow base e size v' (n+1) (xs++cs.toList)→Ext (fun k=>v.ownBlock=some k) W w'→(∀k,v'.ownBlock=some k→v.ownBlock=some k∨W.heap.size≤k)→wpList P ops Q rest (a.put o.dst v') w'):
  wpList P ops Q (o::rest) a (W.alloc (.cells cs e)):=by
 subst hB;refine mU hgd s x t ho base e i z size bytes ht hi hz hsize hby hzs hsz v n xs hs (hown.alloc _) (some ⟨W.heap.size,0,none⟩) 1 1 cs.toList hx (by simp[hcs]) (fun h=>by cases h)
  (fun ad had j u hu=> ?_) h1 h63 hbytes (by rw[Hu];omega) (fun v' w' r1 r2 r3=> ?_)
 ·obtain rfl:(⟨W.heap.size,0,none⟩:Addr)=ad:=by simpa using had
  have:=lh W cs.toList e j u hu;simpa using this
 ·refine h v' w' r1 ?_ (fun k hk=> ?_)
  ·refine⟨r2.os,r2.tape,r2.output,by have:=r2.size;rw[Hu] at this;omega,fun k hk hn=> ?_⟩
   rw[r2.block k (by rw[Hu];omega) (fun e=>hn e.symm)];exact Hy W _ k hk
  ·rcases r3 k hk with h|h
   ·exact .inl h
   ·right;rw[Hu] at h;omega
theorem aF {P:Program}{w:H5}{o:Oper}{a:Act}{Q:Exit→Act→H5→Prop}{K:Act→H5→Prop}(s x:Operand)(t:TypeId)
  (ho:o.op= .call {callee:= .builtin .append,args:=#[s,x],argTypes:=#[t,t]})(base:Nat)(e:TypeId)(i:TypeInfo)(z:Value)(size bytes:Nat)(ht:P.underlying t=some (.slice e))(hi:P.info? e=some i)(hz:i.zero=some z)
  (hsize:i.size=size)(hby:i.bytes=bytes)(hzs:z.cells.size=size)(hsz:0<size)
  (v:Value)(n:Nat)(xs:List Value)(hs:a.eval s=v)(hown:w.ownsRow base e size v n xs)
  (ao:Option Addr)(m c:Nat)(news:List Value)(hx:a.eval x= .slice ao m c)(hl:news.length=m*size)(hnone:ao=none→m=0)(hnews:∀ad,ao=some ad→∀j u,news[j]?=some u→w.cell? (ad.add j)=some u)(h1:∀u∈news,u.oneCell'=true)
  (h63:n+m≤maxLen)(hbytes:(n+m)*bytes≤140737488355328)(hbase:base≤w.heap.size)
  (h:∀v' w',w'.ownsRow base e size v' (n+m) (xs++news)→w.grownBy w' v.ownBlock→(∀k,v'.ownBlock=some k→v.ownBlock=some k∨w.heap.size≤k)→K (a.put o.dst v') w'):Oper.wp P o a w K Q:=by
 have hrun:∃v' w',(Builtin.append_ #[t,t] o.type #[v,.slice ao m c]).run P w= .ok v' w'∧w'.ownsRow base e size v' (n+m) (xs++news)∧w.grownBy w' v.ownBlock∧(∀k,v'.ownBlock=some k→v.ownBlock=some k∨w.heap.size≤k):=by
  cases ao with
  |none=>
   obtain rfl:=hnone rfl;have hn:news=[]:=Hm (by omega);subst hn;exact⟨v,w,run_append_nil w base t o.type e i size ht hi v n xs hown c,by simpa using hown,World.grownBy.refl w _,fun k hk=> .inl hk⟩
  |some ad=>
   obtain⟨v',w',r1,r2,r3,_,r5⟩:=run_append_own_at w base t o.type e i z size bytes ht hi hz hsize hby hzs hsz v n xs hown ad m c news hl (hnews ad rfl) h1 h63 hbytes hbase;refine⟨v',w',r1,r2,r3,fun k hk=> ?_⟩;rcases r5 with r5|r5
   ·exact .inl (by rw[←r5];exact hk)
   ·right;rw[r5] at hk;simp at hk;omega
 obtain⟨v',w',r1,r2,r3,r4⟩:=hrun;unfold Oper.wp;simp[execOp,ho,resolve,invoke,builtin,hs,hx,r1,Result.andThen];exact h _ _ r2 r3 r4
def eH (c:Int):Bool:=decide (65≤c)&&decide (c≤90)||decide (97≤c)&&decide (c≤122)||decide (c=95)
def iZ (c:Int):Bool:=decide (48≤c)&&decide (c≤57)
def eu (s:ByteArray)(i:Nat):Int:=if h:i<s.size then((s[i]'h).toNat:Int) else 0
theorem fP {b:Bool}{p:Prop}{x:Bool}(hx:x=true↔p)(h:b=true↔p):Ending.returned (.bool b)= .returned (.bool x):=by
 rw[Bool.eq_iff_iff.2 (h.trans hx.symm)]
theorem Ah (c:Int):eH c=true↔(65≤c∧c≤90∨97≤c∧c≤122)∨c=95:=by unfold eH;simp
theorem uI (c:Int):iZ c=true↔48≤c∧c≤57:=by unfold iZ;simp
theorem fQ (c:Int)(w:H5):zS 203 #[.int .u8 c] w (.bool (eH c)):=by
 have HL:=zH (Ah c);go_enter func203,ntmps203
 by_cases h1:65≤c
 ·by_cases h2:c≤90
  ·go_wp2
   go_ret;exact⟨fP HL.out (iff_of_true rfl (by omega)),rfl⟩
  ·by_cases h3:97≤c
   ·by_cases h4:c≤122
    ·go_wp2
     go_ret;exact⟨fP HL.out (iff_of_true rfl (by omega)),rfl⟩
    ·have e5:(c==95)=false:=by rw[beq_eq_false_iff_ne];omega
     go_wp2;go_ret;exact⟨fP HL.out (iff_of_false (fun h=>by cases h) (by omega)),rfl⟩
   ·by_cases h5:c=95
    ·subst h5
     go_wp2;go_ret;exact⟨fP HL.out (iff_of_true rfl (by simp)),rfl⟩
    ·have e5:(c==95)=false:=by rw[beq_eq_false_iff_ne];exact h5
     go_wp2;go_ret;exact⟨fP HL.out (iff_of_false (fun h=>by cases h) (by omega)),rfl⟩
 ·have h3:¬97≤c:=by omega
  have e5:(c==95)=false:=by rw[beq_eq_false_iff_ne];omega
  go_wp2;go_ret;exact⟨fP HL.out (iff_of_false (fun h=>by cases h) (by omega)),rfl⟩
theorem jr (c:Int)(w:H5):zS 204 #[.int .u8 c] w (.bool (iZ c)):=by
 have HL:=zH (uI c);go_enter func204,ntmps204
 by_cases h1:48≤c
 ·by_cases h2:c≤57
  ·go_wp2
   go_ret;exact⟨fP HL.out (iff_of_true rfl (by omega)),rfl⟩
  ·go_wp2
   go_ret;exact⟨fP HL.out (iff_of_false (fun h=>by cases h) (by omega)),rfl⟩
 ·go_wp2
  go_ret;exact⟨fP HL.out (iff_of_false (fun h=>by cases h) (by omega)),rfl⟩
def iy:List ByteArray:=[⟨#[105,110,116]⟩,⟨#[115,116,114,117,99,116]⟩,⟨#[105,102]⟩,⟨#[101,108,115,101]⟩,⟨#[119,104,105,108,101]⟩,⟨#[98,114,101,97,107]⟩,⟨#[99,111,110,116,105,110,117,101]⟩,⟨#[114,101,116,117,114,110]⟩,⟨#[102,114,101,101]⟩,⟨#[112,117,116]⟩,⟨#[110,101,119]⟩,⟨#[110,117,108,108]⟩,⟨#[103,101,116]⟩]
theorem sw (w:H5):Calls prog 240 #[] w fun e w'=>e= .returned (.slice (some ⟨w.heap.size,0,none⟩) 13 13)∧w'=w.alloc (.cells (iy.map Value.string).toArray 9):=by
 have hc:(iy.map Value.string).toArray=#[.string ⟨#[105,110,116]⟩,.string ⟨#[115,116,114,117,99,116]⟩,.string ⟨#[105,102]⟩,.string ⟨#[101,108,115,101]⟩,.string ⟨#[119,104,105,108,101]⟩,.string ⟨#[98,114,101,97,107]⟩,.string ⟨#[99,111,110,116,105,110,117,101]⟩,.string ⟨#[114,101,116,117,114,110]⟩,.string ⟨#[102,114,101,101]⟩,.string ⟨#[112,117,116]⟩,.string ⟨#[110,101,119]⟩,.string ⟨#[110,117,108,108]⟩,.string ⟨#[103,101,116]⟩]:=rfl;rw[hc];clear hc;go_enter func240,ntmps240;go_wp2;go_ret;exact⟨rfl,rfl⟩
def iB (s:ByteArray):Bool:=iy.any fun x=>x==s
theorem vQ (s:ByteArray)(w:H5):zP 205 #[.string s] w (.bool (iB s)):=by
 obtain⟨N,hN⟩:=zE w.heap.size;obtain⟨W1,hW1⟩:=zE (w.alloc (.cells (iy.map Value.string).toArray 9));have HWC:=zH (sw w);rw[hN,hW1] at HWC;have hb1:=gZ hW1 hN;have hr1:W1.heap[N]?=some (.cells (iy.map Value.string).toArray 9 (0,0)):=by rw[←hW1,←hN];exact alloc_at _ _
 have HC:Ia (∀(j:Nat)(x:ByteArray),iy[j]?=some x→W1.cell? ⟨N,j,none⟩=some (.string x)):=fun j x hx=>by
  rw[cell_of_row _ _ _ _ _ _ hr1];simp[hx]
 have HB:=zH hb1;have HL:Ia (iy.length=13):=rfl;have HP:Ia (∀b:Bool,b=iB s→(Ending.returned (.bool b)= .returned (.bool (iB s))∧H9 N w W1)):=fun b hb=>by rw[hb];exact⟨rfl,hb1⟩
 clear hW1 hb1 hr1;go_enter func205,ntmps205
 go_wp2_with (go_at_call 240;refine HWC.out.mono ?_;rintro e w2 ⟨rfl,rfl⟩)
 go_loop [4] (fun k=>∃j:Nat,j≤13∧k= .int .i64 (j:Int)∧∀x∈iy.take j,(x==s)=false) (fun k=>13-(intOf k).toNat)
 case atStart=>exact⟨0,Hg _,rfl,by simp⟩
 case round=>
  obtain⟨j,hj,rfl,hz⟩:=hrel
  by_cases hjl:j<13
  ·obtain⟨y,hy⟩:∃y,iy[j]?=some y:=⟨_,GN (by rw[HL.out];exact hjl)⟩
   have d1:=HC.out j y hy;have hjI:(j:Int)<13:=by omega
   obtain⟨d,hd0⟩:=zE (y==s);have hd:(y.toList==s.toList)=d:=by rw[←beq_toListBytes];exact hd0
   have HZ:=zH hz;have HY:=zH hy;have HD:=zH hd0;clear hy hz hd0;cases d with
   |true=>
    go_wp2;go_ret;refine HP.out true ?_;unfold iB;exact(List.any_eq_true.2 ⟨y,GV HY.out,HD.out⟩).symm
   |false=>
    go_wp2
    go_round
    case rel=>
     refine⟨j+1,by omega,by go_num,fun x hx=> ?_⟩;rw[List.take_add_one,HY.out] at hx;rcases List.mem_append.1 hx with h|h
     ·exact HZ.out x h
     ·have e:x=y:=by simpa using h
      rw[e];exact HD.out
    case measure=>simp[intOf];omega
  ·have hje:j=13:=by omega
   subst hje;have HM:Ia (false=iB s):=by
    unfold Ia iB;rw[eq_comm,List.any_eq_false];intro x hx;have:=hz x (by rw[List.take_of_length_le (by rw[HL.out];exact He _)];exact hx);rw[this];simp
   clear hz;go_wp2;go_ret;exact HP.out false HM.out
def isSp (c:Int):Bool:=c==32||c==9||c==10
def fG (s:ByteArray):Nat→Nat→Nat
 |0,i=>i
 |n+1,i=>if isSp (eu s i)=true then fG s n (i+1) else i
def bX (s:ByteArray):Nat→Nat→Nat
 |0,k=>k
 |n+1,k=>if (eH (eu s k)||iZ (eu s k))=true then bX s n (k+1) else k
theorem kN (s:ByteArray):∀(n i:Nat),i≤fG s n i∧fG s n i≤i+n
 |0,i=>by simp[fG]
 |n+1,i=>by
  unfold fG
  split
  ·have:=kN s n (i+1);omega
  ·omega
theorem gL (s:ByteArray):∀(n i:Nat),i≤bX s n i∧bX s n i≤i+n
 |0,i=>by simp[bX]
 |n+1,i=>by
  unfold bX
  split
  ·have:=gL s n (i+1);omega
  ·omega
def fB:List ByteArray:=[⟨#[45,62]⟩,⟨#[60,61]⟩,⟨#[62,61]⟩,⟨#[61,61]⟩,⟨#[33,61]⟩,⟨#[43]⟩,⟨#[45]⟩,⟨#[42]⟩,⟨#[47]⟩,⟨#[37]⟩,⟨#[60]⟩,⟨#[62]⟩,⟨#[33]⟩,⟨#[61]⟩,⟨#[40]⟩,⟨#[41]⟩,⟨#[123]⟩,⟨#[125]⟩,⟨#[44]⟩,⟨#[59]⟩]
structure Tok where
 kind:Int
 text:ByteArray
 n:Int
 ln:Int
 cl:Int
def Tok.cells (t:Tok):Array Value:=#[.int .i64 t.kind,.string t.text,.int .i64 t.n,.int .i64 t.ln,.int .i64 t.cl]
abbrev zY:=Int×ByteArray×Int
def Tok.sig (t:Tok):zY:=(t.kind,t.text,t.n)
def fT (s:ByteArray)(i:Nat)(g:ByteArray):Bool:=decide (g.size≤s.size-i)&&(s.extract i (i+g.size)==g)
def Ai (s:ByteArray)(i:Nat):Option zY:=
 if eH (eu s i)=true then
  (if bX s (s.size-i) i≤i+40 then some (if iB (s.extract i (bX s (s.size-i) i))=true then 2 else 1,s.extract i (bX s (s.size-i) i),0) else none)
 else if iZ (eu s i)=true then
  (if i+1<s.size∧(iZ (eu s (i+1))||eH (eu s (i+1)))=false then some (3,s.extract i (i+1),eu s i-48) else none)
 else(fB.find? (fT s i)).map fun g=>(4,g,0)
def kP (s:ByteArray):Nat→Nat→Option (List zY)
 |0,_=>none
 |n+1,i=>if i<s.size then(match Ai s i with
   |some t=>(kP s n (fG s (s.size-(i+t.2.1.size)) (i+t.2.1.size))).map (t::·)
   |none=>none)
  else some []
theorem jG {s:ByteArray}{j:Nat}(h:j<s.size):((s[j]'h).toNat:Int)=eu s j:=by unfold eu;rw[dif_pos h]
def mV (s:ByteArray):Prop:=∀i,eu s i≠47
theorem vR (s:ByteArray)(i:Nat)(w:H5)(hns:mV s)(hs:s.size≤9000000)(hi:i≤s.size):
  zS 166 #[.string s,.int .i64 (i:Int)] w (.int .i64 (fG s (s.size-i) i:Nat)):=by
 obtain⟨R,hR⟩:=zE (fG s (s.size-i) i);rw[hR];have HNS:=zH hns;have HR:=zH hR;clear hns hR;go_enter func166,ntmps166;go_wp2
 go_loop [1] (fun k=>∃j:Nat,j≤s.size∧k= .int .i64 (j:Int)∧fG s (s.size-j) j=R) (fun k=>s.size-(intOf k).toNat)
 case atStart=>exact⟨i,hi,rfl,HR.out⟩
 case round=>
  obtain⟨j,hj,rfl,hz⟩:=hrel
  by_cases hjl:j<s.size
  ·have hjI:(j:Int)<(s.size:Int):=by omega
   obtain⟨c,hc⟩:=zE (((s[j]'hjl).toNat:Int):Int);have hcb:eu s j=c:=by rw[←jG hjl];exact hc
   have hc47:c≠47:=by rw[←hcb];exact HNS.out j
   have hstep:s.size-j=s.size-(j+1)+1:=by omega
   rw[hstep] at hz;unfold fG at hz;rw[hcb] at hz;have f47:(c==47)=false:=by rw[beq_eq_false_iff_ne];exact hc47
   by_cases hsp:isSp c=true
   ·rw[if_pos hsp] at hz
    have HZ:=zH hz;unfold isSp at hsp;obtain⟨b1,e1⟩:=zE (c==32);obtain⟨b2,e2⟩:=zE (c==9);obtain⟨b3,e3⟩:=zE (c==10);rw[e1,e2,e3] at hsp;have HSP:=zH hsp;clear hz hsp hcb hc47 f47 hstep;rw[←hc] at e1 e2 e3;clear hc;have HN:Ia (∃k:Nat,k≤s.size∧Value.int .i64 ((j:Int)+1)= .int .i64 (k:Int)∧fG s (s.size-k) k=R):=⟨j+1,by omega,by simp,HZ.out⟩
    clear HZ;cases b1<;>cases b2<;>cases b3<;>first
     |(exact absurd HSP.out (by decide))
     |(clear HSP;go_wp2;go_round;case rel=>exact HN.out
       case measure=>simp[intOf];omega)
   ·rw[if_neg hsp] at hz
    subst hz;have hsp':isSp c=false:=by simpa using hsp
    unfold isSp at hsp';simp only[Bool.or_eq_false_iff] at hsp';obtain⟨⟨e1,e2⟩,e3⟩:=hsp';clear hsp hcb hc47 hstep HR;rw[←hc] at e1 e2 e3 f47;clear hc
    by_cases hj1:j+1<s.size
    ·have hj1I:(j:Int)+1<(s.size:Int):=by omega
     go_wp2;go_ret;exact⟨rfl,rfl⟩
    ·have hj1I:¬(j:Int)+1<(s.size:Int):=by omega
     go_wp2;go_ret;exact⟨rfl,rfl⟩
  ·have hje:j=s.size:=by omega
   subst hje;rw[Nat.sub_self] at hz;unfold fG at hz;subst hz;clear HR;go_wp2;go_ret;exact⟨rfl,rfl⟩
def BC (w:H5)(e:Ending)(w':H5):Prop:=∃a b:Int,e= .returned (.agg #[.int .i64 a,.int .i64 b])∧0≤a∧a≤9000001∧0≤b∧b≤9000001∧H9 w.heap.size w w'
def Fw (W:H5)(N:Nat)(w:H5)(j:Nat)(wr:H5):Prop:=∃a b:Int,0≤a∧a≤(j:Int)+1∧0≤b∧b≤(j:Int)+1∧wr.heap[N]?=some (.cells #[.int .i64 0,.int .i64 0] 40 (0,0))∧wr.heap[N+1]?=some (.cells #[.int .i64 a,.int .i64 b] 40 (0,0))∧H9 N w wr∧wr.heap.size=W.heap.size
theorem sD (s:ByteArray)(n:Nat)(w:H5)(hs:s.size≤9000000)(hn:n≤s.size):
  Calls prog 167 #[.string s,.int .i64 (n:Int)] w (BC w):=by
 obtain⟨N,hN⟩:=zE w.heap.size;have hst:∀(w:H5)(c:Array Value),c.size=2→(storeCells ⟨w.heap.size,0,none⟩ [.int .i64 1,.int .i64 1] 0).run prog (w.alloc (.cells c 40))= .ok () (w.alloc (.cells #[.int .i64 1,.int .i64 1] 40)):=fun w c hc=>
  run_storeCells_new (P:=prog) w 40 c #[.int .i64 1,.int .i64 1] (by show _=some 2;kernel_rfl) hc (by simp[Value.oneCell'])
 go_enter func167,ntmps167;go_wp2;clear hst;obtain⟨W1,hW1⟩:=zE ((w.alloc (.cells #[.int .i64 0,.int .i64 0] 40)).alloc (.cells #[.int .i64 1,.int .i64 1] 40));have h0:Fw W1 N w 0 W1:=⟨1,1,by omega,by omega,by omega,by omega,by rw[←hW1,←hN];exact heap_alloc2_old _ _ _,by rw[←hW1,←hN];exact heap_alloc2_new _ _ _,by rw[←hW1,←hN];exact((Hw _ _).alloc (He _) _).alloc (by simp) _,rfl⟩
 rw[hW1];have hs1:N+1<W1.heap.size:=by rw[←hW1];simp[hN]
 have HN:=zH hN;have H0:=zH h0;have HS1:=zH hs1;clear hW1 hN h0 hs1
 go_loopw [6] (fun k wr=>∃j:Nat,j≤n∧k= .int .i64 (j:Int)∧Fw W1 N w j wr) (fun k _=>n-(intOf k).toNat)
 case atStart=>exact⟨0,Hg _,rfl,H0.out⟩
 case round=>
  obtain⟨j,hj,rfl,a,b,ha0,ha,hb0,hb,r0,r1,hbl,hsz⟩:=hrel;have HB:=zH hbl;have HSZ:=zH hsz;have c0:=zR r1 0 (.int .i64 a);have c1:=zR r1 1 (.int .i64 b);have f0:wr.frozen? ⟨N+1,0,none⟩=false:=frozen_of_row _ _ _ _ _ r1;have f1:wr.frozen? ⟨N+1,1,none⟩=false:=frozen_of_row _ _ _ _ _ r1;have k0:=zR r0 0 (.int .i64 0);have k1:=zR r0 1 (.int .i64 0);have g0:wr.frozen? ⟨N,0,none⟩=false:=frozen_of_row _ _ _ _ _ r0;have g1:wr.frozen? ⟨N,1,none⟩=false:=frozen_of_row _ _ _ _ _ r0;have HR0:=zH r0;have HR1:=zH r1;clear hbl hsz r0 r1
  by_cases hjl:j<n
  ·have hjI:(j:Int)<(n:Int):=by omega
   have hjs:j<s.size:=by omega
   by_cases e10:(((s[j]'hjs).toNat:Int)==10)=true
   ·go_wp2
    go_roundw
    case rel=>
     refine⟨j+1,by omega,by go_num,a+1,1,by omega,by omega,by omega,by omega, ?_,bf HR1.out, ?_, ?_⟩
     ·exact(Below.heap_setCell _ _ _ N (by show N≠N+1;omega)).trans ((Below.heap_setCell _ _ _ N (by show N≠N+1;omega)).trans HR0.out)
     ·exact(HB.out.setCell (by show N≤N+1;omega) _).setCell (by show N≤N+1;omega) _
     ·simp[HSZ.out]
    case measure=>simp[intOf];omega
   ·have e10':(((s[j]'hjs).toNat:Int)==10)=false:=by simpa using e10
    clear e10;go_wp2;go_roundw
    case rel=>
     refine⟨j+1,by omega,by go_num,a,b+1,by omega,by omega,by omega,by omega, ?_, ?_, ?_, ?_⟩
     ·exact(Below.heap_setCell _ _ _ N (by show N≠N+1;omega)).trans HR0.out
     ·have:=Hz wr (N+1) 1 _ _ (.int .i64 (b+1)) HR1.out;simpa using this
     ·exact HB.out.setCell (by show N≤N+1;omega) _
     ·simp[HSZ.out]
    case measure=>simp[intOf];omega
  ·have hjI:¬(j:Int)<(n:Int):=by omega
   have hb9:a≤9000001:=by omega
   go_wp2;(try simp only[Exit.inBlock,Exit.then]);refine bodyPost_ret (results_cell_row (P:=prog) rfl _ _ N 40 _ (0,0) _ rfl (bf HR0.out) underlying40 rfl (by kernel_rfl)) rfl ?_;refine⟨a,b,rfl,ha0,by omega,hb0,by omega, ?_⟩;rw[HN.out];exact(HB.out.setCell (by show N≤N;omega) _).setCell (by show N≤N;omega) _
def BZ (k:Int)(s:ByteArray)(n:Int):Value:= .agg #[.int .i64 k,.string s,.int .i64 n,.int .i64 0,.int .i64 0]
theorem Aj (s:ByteArray)(i:Nat)(w:H5)(hs:s.size≤9000000)(hi:i<s.size)(hl:eH (eu s i)=true)(h40:bX s (s.size-i) i≤i+40):
  zP 168 #[.string s,.int .i64 (i:Int)] w (.tuple #[BZ (if iB (s.extract i (bX s (s.size-i) i))=true then 2 else 1) (s.extract i (bX s (s.size-i) i)) 0,.int .i64 0]):=by
 obtain⟨R,hR⟩:=zE (bX s (s.size-i) i);have hRb:=gL s (s.size-i) i;rw[hR] at hRb h40⊢;have hRi:=hRb.1;have hRs:R≤s.size:=by omega
 obtain⟨wf,hwf⟩:=zE (iB (s.extract i R));rw[hwf];obtain⟨kd,hkd⟩:=zE ((if wf=true then 2 else 1):Int);rw[hkd];have HW:=zH (fun W=>vQ (s.extract i R) W);rw[hwf] at HW;have HKD:=zH hkd;have HR:=zH hR;have hc0:=jG hi;obtain⟨c,hc⟩:=zE (((s[i]'hi).toNat:Int):Int);have HL0:=zH (fun W=>fQ c W);have hlc:eH c=true:=by rw[←hc,hc0];exact hl
 rw[hlc] at HL0;have HC:=zH hc;have HLT:=zH fun c W=>fQ c W;have HDG:Ia (∀(c:Int)(W:H5),zS 204 #[.int .u8 c] W (.bool (iZ c))):=fun c W=>jr c W;obtain⟨N,hN⟩:=zE w.heap.size;obtain⟨W1,hW1⟩:=zE (w.alloc (.cells #[.int .i64 0,.string ⟨#[]⟩,.int .i64 0,.int .i64 0,.int .i64 0] 263));obtain⟨W2,hW2⟩:=zE (W1.alloc (.cells #[.int .i64 1,.string (s.extract i R),.int .i64 0,.int .i64 0,.int .i64 0] 263));have hb1:=gZ hW1 hN;have hs1:W1.heap.size=N+1:=by rw[←hW1];simp[hN]
 have hb2:H9 N w W2:=by rw[←hW2];exact hb1.alloc (by omega) _
 have hs2:W2.heap.size=N+2:=by rw[←hW2];simp[hs1]
 have hr0:W2.heap[N]?=some (.cells #[.int .i64 0,.string ⟨#[]⟩,.int .i64 0,.int .i64 0,.int .i64 0] 263 (0,0)):=by rw[←hW2,←hW1,←hN];exact heap_alloc2_old _ _ _
 have hr1:W2.heap[N+1]?=some (.cells #[.int .i64 1,.string (s.extract i R),.int .i64 0,.int .i64 0,.int .i64 0] 263 (0,0)):=by rw[←hW2,←hs1];exact alloc_at _ _
 have HK:Ia (∀W,H9 W2.heap.size W2 W→W.heap[N]?=some (.cells #[.int .i64 0,.string ⟨#[]⟩,.int .i64 0,.int .i64 0,.int .i64 0] 263 (0,0))∧W.heap[N+1]?=some (.cells #[.int .i64 1,.string (s.extract i R),.int .i64 0,.int .i64 0,.int .i64 0] 263 (0,0))∧H9 N w W):=fun W hW=>
  ⟨(hW.block N (by omega)).trans hr0,(hW.block (N+1) (by omega)).trans hr1,hb2.trans (hW.mono (by omega))⟩
 have hst:∀(c:Array Value),c.size=5→(storeCells ⟨W1.heap.size,0,none⟩ [.int .i64 1,.string (s.extract i R),.int .i64 0,.int .i64 0,.int .i64 0] 0).run prog (W1.alloc (.cells c 263))= .ok () W2:=fun c hc=>by
  rw[←hW2];exact run_storeCells_new (P:=prog) W1 263 c #[.int .i64 1,.string (s.extract i R),.int .i64 0,.int .i64 0,.int .i64 0] (by show _=some 5;kernel_rfl) hc (by simp[Value.oneCell'])
 have HST:=zH hst;have HS1:=zH hs1;have HW1:=zH hW1;have HW2:=zH hW2;have HN:=zH hN;clear hR hRb hwf hkd hc0 hc hlc hl hst hW1 hW2 hb1 hb2 hs1 hs2 hr0 hr1;go_enter func168,ntmps168
 go_wp2_with (go_at_call 203;(try rw[HC.out]);refine(HL0.out _).mono ?_;rintro e w2 ⟨rfl,rfl⟩)
 rw[HW1.out]
 go_loop [6] (fun k=>∃j:Nat,j≤s.size∧k= .int .i64 (j:Int)∧bX s (s.size-j) j=R) (fun k=>s.size-(intOf k).toNat)
 case atStart=>exact⟨i,by omega,rfl,HR.out⟩
 case round=>
  obtain⟨j,hj,rfl,hz⟩:=hrel;have HFIN:Ia (bX s (s.size-j) j=j→j=R):=fun h=>h.symm.trans hz
  by_cases hjl:j<s.size
  ·have hjI:(j:Int)<(s.size:Int):=by omega
   obtain⟨c2,hc2⟩:=zE (((s[j]'hjl).toNat:Int):Int);have hcb:eu s j=c2:=by rw[←jG hjl];exact hc2
   have hstep:s.size-j=s.size-(j+1)+1:=by omega
   have HC2:=zH hc2;have HLJ:=zH (HLT.out c2);have HDJ:=zH (HDG.out c2);obtain⟨lf,hlf⟩:=zE (eH c2);obtain⟨df,hdf⟩:=zE (iZ c2);rw[hlf] at HLJ;rw[hdf] at HDJ;have HNX:Ia ((lf||df)=true→∃j':Nat,j'≤s.size∧Value.int .i64 ((j:Int)+1)= .int .i64 (j':Int)∧bX s (s.size-j') j'=R):=fun h=>⟨j+1,hjl,by simp,by
    rw[hstep] at hz;unfold bX at hz;rw[hcb,hlf,hdf,if_pos h] at hz;exact hz⟩
   have HST':Ia ((lf||df)=false→j=R):=fun h=>HFIN.out (by
    rw[hstep];unfold bX;rw[hcb,hlf,hdf,h];simp)
   clear hz hc2 hcb hlf hdf hstep HFIN;cases lf with
   |true=>
    go_wp2_with (go_at_call 203;(try rw[HC2.out]);refine(HLJ.out _).mono ?_;rintro e w4 ⟨rfl,rfl⟩)
    go_round
    case rel=>exact HNX.out rfl
    case measure=>simp[intOf];omega
   |false=>
    cases df with
    |true=>
     go_wp2_with (first
      |(go_at_call 203;(try rw[HC2.out]);refine(HLJ.out _).mono ?_;rintro e w4 ⟨rfl,rfl⟩)
      |(go_at_call 204;(try rw[HC2.out]);refine(HDJ.out _).mono ?_;rintro e w5 ⟨rfl,rfl⟩))
     go_round
     case rel=>exact HNX.out rfl
     case measure=>simp[intOf];omega
    |false=>
     obtain rfl:j=R:=HST'.out rfl;clear HNX HST';obtain⟨q0,q1,hb2⟩:=HK.out W2 (Hw _ _);obtain⟨⟨a0,a1,a2,a3,a4⟩,⟨b0,b1,b2,b3,b4⟩,hlt1⟩:=fe q1;clear q0 q1 hb2;have hst:=HST.out;have HS1':=HS1.out;obtain rfl:kd=if wf=true then 2 else 1:=HKD.out.symm
     cases wf with
     |false=>
      go_wp2_with (first
       |(go_at_call 203;(try rw[HC2.out]);refine(HLJ.out _).mono ?_;rintro e w4 ⟨rfl,rfl⟩)
       |(go_at_call 204;(try rw[HC2.out]);refine(HDJ.out _).mono ?_;rintro e w5 ⟨rfl,rfl⟩)
       |(go_at_call 205;refine(HW.out _).mono ?_;rintro e w6 ⟨rfl,hb6⟩;(try rw[HW2.out] at hb6);obtain⟨q0,q1,hb7⟩:=HK.out w6 hb6;obtain⟨⟨a0,a1,a2,a3,a4⟩,⟨b0,b1,b2,b3,b4⟩,hlt1⟩:=fe q1;obtain⟨⟨g0,g1,g2,g3,g4⟩,⟨f0,f1,f2,f3,f4⟩,hlt0⟩:=fe q0;have Q0:=zH q0;have HB7:=zH hb7;clear hb6 q0 q1 hb7))
      (try simp only[Exit.inBlock,Exit.then]);refine bodyPost_ret (aK rfl _ _ N 263 _ (0,0) _ rfl (iY Q0.out) underlying263 (by kernel_rfl)) rfl ?_;(try rw[HN.out]);exact⟨rfl,fE HB7.out (He _) _ _ _ _ _⟩
     |true=>
      go_wp2_with (first
       |(go_at_call 203;(try rw[HC2.out]);refine(HLJ.out _).mono ?_;rintro e w4 ⟨rfl,rfl⟩)
       |(go_at_call 204;(try rw[HC2.out]);refine(HDJ.out _).mono ?_;rintro e w5 ⟨rfl,rfl⟩)
       |(go_at_call 205;refine(HW.out _).mono ?_;rintro e w6 ⟨rfl,hb6⟩;(try rw[HW2.out] at hb6);obtain⟨q0,q1,hb7⟩:=HK.out w6 hb6;obtain⟨⟨a0,a1,a2,a3,a4⟩,⟨b0,b1,b2,b3,b4⟩,hlt1⟩:=fe q1;obtain⟨⟨g0,g1,g2,g3,g4⟩,⟨f0,f1,f2,f3,f4⟩,hlt0⟩:=fe q0;have Q0:=zH q0;have HB7:=zH hb7;clear hb6 q0 q1 hb7))
      (try simp only[Exit.inBlock,Exit.then]);refine bodyPost_ret (aK rfl _ _ N 263 _ (0,0) _ rfl (iY ((Below.heap_setCell _ _ _ N (by show N≠N+1;omega)).trans Q0.out)) underlying263 (by kernel_rfl)) rfl ?_;(try rw[HN.out]);exact⟨rfl,fE (HB7.out.setCell (by show N≤N+1;omega) _) (He _) _ _ _ _ _⟩
  ·obtain rfl:j=s.size:=by omega
   obtain rfl:s.size=R:=HFIN.out (by rw[Nat.sub_self];rfl);clear hz HFIN;obtain⟨q0,q1,hb2⟩:=HK.out W2 (Hw _ _);obtain⟨⟨a0,a1,a2,a3,a4⟩,⟨b0,b1,b2,b3,b4⟩,hlt1⟩:=fe q1;clear q0 q1 hb2;have hst:=HST.out;have HS1':=HS1.out;obtain rfl:kd=if wf=true then 2 else 1:=HKD.out.symm
   cases wf with
   |false=>
    go_wp2_with (first
     |(go_at_call 205;refine(HW.out _).mono ?_;rintro e w6 ⟨rfl,hb6⟩;(try rw[HW2.out] at hb6);obtain⟨q0,q1,hb7⟩:=HK.out w6 hb6;obtain⟨⟨a0,a1,a2,a3,a4⟩,⟨b0,b1,b2,b3,b4⟩,hlt1⟩:=fe q1;obtain⟨⟨g0,g1,g2,g3,g4⟩,⟨f0,f1,f2,f3,f4⟩,hlt0⟩:=fe q0;have Q0:=zH q0;have HB7:=zH hb7;clear hb6 q0 q1 hb7))
    (try simp only[Exit.inBlock,Exit.then]);refine bodyPost_ret (aK rfl _ _ N 263 _ (0,0) _ rfl (iY Q0.out) underlying263 (by kernel_rfl)) rfl ?_;(try rw[HN.out]);exact⟨rfl,fE HB7.out (He _) _ _ _ _ _⟩
   |true=>
    go_wp2_with (first
     |(go_at_call 205;refine(HW.out _).mono ?_;rintro e w6 ⟨rfl,hb6⟩;(try rw[HW2.out] at hb6);obtain⟨q0,q1,hb7⟩:=HK.out w6 hb6;obtain⟨⟨a0,a1,a2,a3,a4⟩,⟨b0,b1,b2,b3,b4⟩,hlt1⟩:=fe q1;obtain⟨⟨g0,g1,g2,g3,g4⟩,⟨f0,f1,f2,f3,f4⟩,hlt0⟩:=fe q0;have Q0:=zH q0;have HB7:=zH hb7;clear hb6 q0 q1 hb7))
    (try simp only[Exit.inBlock,Exit.then]);refine bodyPost_ret (aK rfl _ _ N 263 _ (0,0) _ rfl (iY ((Below.heap_setCell _ _ _ N (by show N≠N+1;omega)).trans Q0.out)) underlying263 (by kernel_rfl)) rfl ?_;(try rw[HN.out]);exact⟨rfl,fE (HB7.out.setCell (by show N≤N+1;omega) _) (He _) _ _ _ _ _⟩
theorem yc (s:ByteArray)(i:Nat)(w:H5)(hs:s.size≤9000000)(hi:i+1<s.size)(hl:eH (eu s i)=false)(hd:iZ (eu s i)=true)(hl1:eH (eu s (i+1))=false)(hd1:iZ (eu s (i+1))=false):
  zP 168 #[.string s,.int .i64 (i:Int)] w (.tuple #[BZ 3 (s.extract i (i+1)) (eu s i-48),.int .i64 0]):=by
 have hi0:i<s.size:=by omega
 have hc0:=jG hi0;have hc1:=jG hi;obtain⟨c,hc⟩:=zE (((s[i]'hi0).toNat:Int):Int);obtain⟨d,hdd⟩:=zE (((s[i+1]'hi).toNat:Int):Int);rw[←hc0,hc] at hl hd⊢;rw[←hc1,hdd] at hl1 hd1;have HLC:=zH (fun W=>fQ c W);have HDC:=zH (fun W=>jr c W);have HLD:=zH (fun W=>fQ d W);have HDD:=zH (fun W=>jr d W);rw[hl] at HLC;rw[hd] at HDC;rw[hl1] at HLD;rw[hd1] at HDD;have HC:=zH hc;have HD:=zH hdd;obtain⟨hcl,hch⟩:=(uI c).1 hd;obtain⟨N,hN⟩:=zE w.heap.size;obtain⟨W1,hW1⟩:=zE (w.alloc (.cells #[.int .i64 0,.string ⟨#[]⟩,.int .i64 0,.int .i64 0,.int .i64 0] 263));obtain⟨W2,hW2⟩:=zE (W1.alloc (.cells #[.int .i64 3,.string (s.extract i (i+1)),.int .i64 (c-48),.int .i64 0,.int .i64 0] 263));have hb1:=gZ hW1 hN;have hs1:W1.heap.size=N+1:=by rw[←hW1];simp[hN]
 have hb2:H9 N w W2:=by rw[←hW2];exact hb1.alloc (by omega) _
 have hr0:W2.heap[N]?=some (.cells #[.int .i64 0,.string ⟨#[]⟩,.int .i64 0,.int .i64 0,.int .i64 0] 263 (0,0)):=by rw[←hW2,←hW1,←hN];exact heap_alloc2_old _ _ _
 have hr1:W2.heap[N+1]?=some (.cells #[.int .i64 3,.string (s.extract i (i+1)),.int .i64 (c-48),.int .i64 0,.int .i64 0] 263 (0,0)):=by rw[←hW2,←hs1];exact alloc_at _ _
 have hst:∀(cs:Array Value),cs.size=5→(storeCells ⟨W1.heap.size,0,none⟩ [.int .i64 3,.string (s.extract i (i+1)),.int .i64 (c-48),.int .i64 0,.int .i64 0] 0).run prog (W1.alloc (.cells cs 263))= .ok () W2:=fun cs hcs=>by
  rw[←hW2];exact run_storeCells_new (P:=prog) W1 263 cs #[.int .i64 3,.string (s.extract i (i+1)),.int .i64 (c-48),.int .i64 0,.int .i64 0] (by show _=some 5;kernel_rfl) hcs (by simp[Value.oneCell'])
 have HST:=zH hst;have HS1:=zH hs1;have HW1:=zH hW1;have HN:=zH hN;have HB1:=zH hb1;have HR0:=zH hr0;have HQ0:Ia (W1.heap[N]?=some (.cells #[.int .i64 0,.string ⟨#[]⟩,.int .i64 0,.int .i64 0,.int .i64 0] 263 (0,0))):=by unfold Ia;rw[←hW1,←hN];exact alloc_at _ _
 have HW2:=zH hW2;have HR1:=zH hr1;clear hl hd hl1 hd1 hc0 hc1 hc hdd hst hW1 hW2 hb1 hb2 hs1 hr0 hr1;go_enter func168,ntmps168
 go_wp2_with (first
  |(go_at_call 203;(try rw[HC.out]);refine(HLC.out _).mono ?_;rintro e w2 ⟨rfl,rfl⟩)
  |(go_at_call 204;(try rw[HC.out]);refine(HDC.out _).mono ?_;rintro e w2 ⟨rfl,rfl⟩))
 rw[HW1.out]
 go_loop [6,8] (fun k n=>(k= .int .i64 (i:Int)∧n= .int .i64 0)∨(k= .int .i64 ((i:Int)+1)∧n= .int .i64 (c-48))) (fun k _=>i+1-(intOf k).toNat)
 case atStart=>exact .inl ⟨rfl,rfl⟩
 case round=>
  have hi0I:(i:Int)<(s.size:Int):=by omega
  have hi1I:(i:Int)+1<(s.size:Int):=by omega
  rcases hrel with⟨rfl,rfl⟩|⟨rfl,rfl⟩
  ·have hcc:=HC.out
   have hcl':48≤((s[i]'hi0).toNat:Int):=by omega
   have hch':((s[i]'hi0).toNat:Int)≤57:=by omega
   clear hcc
   go_wp2_with (go_at_call 204;(try rw[HC.out]);refine(HDC.out _).mono ?_;rintro e w2 ⟨rfl,rfl⟩)
   go_round
   case rel=>exact .inr ⟨rfl,by rw[HC.out]⟩
   case measure=>simp[intOf]
  ·obtain⟨⟨g0,g1,g2,g3,g4⟩,⟨f0,f1,f2,f3,f4⟩,hlt0⟩:=fe HQ0.out
   have HS1':=HS1.out;have h1:(i:Int)+1-(i:Int)=1:=by omega
   have hmx:¬(2147483647<c-48):=by omega
   have hmx':decide (2147483647<c-48)=false:=by simpa using hmx
   obtain⟨bz,hbz⟩:=zE (((s[i]'hi0).toNat:Int)==48);cases bz<;>(
    go_wp2_with (first
     |(go_at_call 203;(try rw[HD.out]);refine(HLD.out _).mono ?_;rintro e w2 ⟨rfl,rfl⟩)
     |(go_at_call 204;(try rw[HD.out]);refine(HDD.out _).mono ?_;rintro e w2 ⟨rfl,rfl⟩))
    (try simp only[Exit.inBlock,Exit.then]);refine bodyPost_ret (aK rfl _ _ N 263 _ (0,0) _ rfl ((Hy _ _ N (by simp;omega)).trans (iY HQ0.out)) underlying263 (by kernel_rfl)) rfl ?_;(try rw[HN.out]);exact⟨rfl,(fE HB1.out (He _) _ _ _ _ _).alloc (by simp;omega) _⟩)
theorem sF (w:H5):Calls prog 206 #[] w fun e w'=>e= .returned (.slice (some ⟨w.heap.size,0,none⟩) 20 20)∧w'=w.alloc (.cells (fB.map Value.string).toArray 9):=by
 have hc:(fB.map Value.string).toArray=#[.string ⟨#[45,62]⟩,.string ⟨#[60,61]⟩,.string ⟨#[62,61]⟩,.string ⟨#[61,61]⟩,.string ⟨#[33,61]⟩,.string ⟨#[43]⟩,.string ⟨#[45]⟩,.string ⟨#[42]⟩,.string ⟨#[47]⟩,.string ⟨#[37]⟩,.string ⟨#[60]⟩,.string ⟨#[62]⟩,.string ⟨#[33]⟩,.string ⟨#[61]⟩,.string ⟨#[40]⟩,.string ⟨#[41]⟩,.string ⟨#[123]⟩,.string ⟨#[125]⟩,.string ⟨#[44]⟩,.string ⟨#[59]⟩]:=rfl;rw[hc];clear hc;go_enter func206,ntmps206;go_wp2;go_ret;exact⟨rfl,rfl⟩
theorem vS:∀x∈fB,x.size≤2:=by decide
theorem qD {α:Type}{p:α→Bool}:∀{l:List α}{g:α},l.find? p=some g→∃q:Nat,l[q]?=some g∧p g=true∧∀(j:Nat)(y:α),j<q→l[j]?=some y→p y=false
 |[],_,h=>by simp at h
 |a::l,g,h=>by
  by_cases hp:p a=true
  ·rw[List.find?_cons_of_pos hp] at h
   obtain rfl:a=g:=by simpa using h
   exact⟨0,rfl,hp,fun j y hj=>absurd hj (Nat.not_lt_zero _)⟩
  ·rw[List.find?_cons_of_neg hp] at h
   obtain⟨q,h1,h2,h3⟩:=qD h;refine⟨q+1,by simpa using h1,h2,fun j y hj hy=> ?_⟩;cases j with
   |zero=>
    have e:a=y:=by simpa using hy
    rw[←e];simpa using hp
   |succ j=>exact h3 j y (by omega) (by simpa using hy)
theorem Ak (s g:ByteArray)(i:Nat)(w:H5)(hs:s.size≤9000000)(hi:i<s.size)(hl:eH (eu s i)=false)(hd:iZ (eu s i)=false)(hg:fB.find? (fT s i)=some g):
  zP 168 #[.string s,.int .i64 (i:Int)] w (.tuple #[BZ 4 g 0,.int .i64 0]):=by
 have hc0:=jG hi;obtain⟨c,hc⟩:=zE (((s[i]'hi).toNat:Int):Int);rw[←hc0,hc] at hl hd;have HLC:=zH (fun W=>fQ c W);have HDC:=zH (fun W=>jr c W);rw[hl] at HLC;rw[hd] at HDC;have HC:=zH hc;obtain⟨q,hq,hfit,hno⟩:=qD hg;have hq20:q<20:=(GQ.1 hq).1;obtain⟨N,hN⟩:=zE w.heap.size;obtain⟨W1,hW1⟩:=zE (w.alloc (.cells #[.int .i64 0,.string ⟨#[]⟩,.int .i64 0,.int .i64 0,.int .i64 0] 263));obtain⟨W2,hW2⟩:=zE (W1.alloc (.cells (fB.map Value.string).toArray 9));have hb1:=gZ hW1 hN;have hs1:W1.heap.size=N+1:=by rw[←hW1];simp[hN]
 have hb2:H9 N w W2:=by rw[←hW2];exact hb1.alloc (by omega) _
 have hr0:W2.heap[N]?=some (.cells #[.int .i64 0,.string ⟨#[]⟩,.int .i64 0,.int .i64 0,.int .i64 0] 263 (0,0)):=by rw[←hW2,←hW1,←hN];exact heap_alloc2_old _ _ _
 have hr1:W2.heap[N+1]?=some (.cells (fB.map Value.string).toArray 9 (0,0)):=by rw[←hW2,←hs1];exact alloc_at _ _
 have HCL:Ia (∀(j:Nat)(x:ByteArray),fB[j]?=some x→W2.cell? ⟨N+1,j,none⟩=some (.string x)):=fun j x hx=>by
  rw[cell_of_row _ _ _ _ _ _ hr1];simp[hx]
 have HSG:=zH (sF W1);rw[hs1,hW2] at HSG;have HW1:=zH hW1;have HR0:=zH hr0;have HB2:=zH hb2;have HQ:=zH hq;have HFIT:=zH hfit;have HNO:=zH hno;have HSZ:Ia (∀x∈fB,x.size≤2):=vS;have HL20:Ia (fB.length=20):=rfl;clear hl hd hc0 hc hq hfit hno hg hW1 hW2 hb1 hb2 hs1 hr0 hr1;go_enter func168,ntmps168
 go_wp2_with (first
  |(go_at_call 203;(try rw[HC.out]);refine(HLC.out _).mono ?_;rintro e w2 ⟨rfl,rfl⟩)
  |(go_at_call 204;(try rw[HC.out]);refine(HDC.out _).mono ?_;rintro e w2 ⟨rfl,rfl⟩)
  |(go_at_call 206;rw[HW1.out];refine HSG.out.mono ?_;rintro e W2 ⟨rfl,rfl⟩))
 go_loopw [11] (fun k wr=>∃j:Nat,j≤q∧k= .int .i64 (j:Int)∧∃n,wr=W2.drewN n) (fun k _=>20-(intOf k).toNat)
 case atStart=>exact⟨0,Hg _,rfl,0,rfl⟩
 case round=>
  obtain⟨j,hj,rfl,n,rfl⟩:=hrel;have hj20:j<20:=by omega
  have hjI:(j:Int)<20:=by omega
  obtain⟨y,hy⟩:∃y,fB[j]?=some y:=⟨_,GN (by rw[HL20.out];exact hj20)⟩
  have hys:y.size≤2:=HSZ.out y (GV hy);have d1:=HCL.out j y hy;have HNEXT:Ia (fT s i y=false→∀m:Nat,∃j':Nat,j'≤q∧Value.int .i64 ((j:Int)+1)= .int .i64 (j':Int)∧∃n,W2.drewN m=W2.drewN n):=fun h m=>⟨j+1,by
   by_cases e:j=q
   ·subst e
    have e2:y=g:=by have:=HQ.out;rw[hy] at this;simpa using this
    rw[e2,HFIT.out] at h;cases h
   ·omega,by simp,m,rfl⟩
  have HEND:Ia (fT s i y=true→y=g):=fun h=>by
   by_cases e:j=q
   ·subst e
    have:=HQ.out;rw[hy] at this;simpa using this
   ·have:=HNO.out j y (by omega) hy
    rw[h] at this;cases this
  clear hy
  by_cases h1:y.size≤s.size-i
  ·have hge:(y.size:Int)≤(s.size:Int)-(i:Int):=by omega
   have hge':decide ((y.size:Int)≤(s.size:Int)-(i:Int))=true:=by simpa using hge
   obtain⟨be,hbe⟩:=zE (s.extract i (i+y.size)==y);have hff:fT s i y=be:=by unfold fT;rw[hbe,decide_eq_true h1];rfl
   rw[hff] at HNEXT HEND;have hbl:((s.extract i (i+y.size)).toList==y.toList)=be:=by rw[←beq_toListBytes];exact hbe
   have hle:(i:Int)+(y.size:Int)≤(s.size:Int):=by omega
   clear hbe hff;cases be with
   |false=>
    clear hge
    go_upto_region 26 with(fail)
    go_quiet (fail)
    go_wp2;go_roundw
    case rel=>exact HNEXT.out rfl _
    case measure=>simp[intOf];omega
   |true=>
    obtain rfl:y=g:=HEND.out rfl;obtain⟨⟨a0,a1,a2,a3,a4⟩,⟨b0,b1,b2,b3,b4⟩,hlt1⟩:=fe HR0.out;clear hge
    go_upto_region 26 with(fail)
    go_quiet (fail)
    go_wp2;(try simp only[Exit.inBlock,Exit.then]);refine bodyPost_ret (aK rfl _ _ N 263 _ (0,0) _ rfl (iY (HR0.out)) underlying263 (by kernel_rfl)) rfl ?_;(try rw[HN.out]);exact⟨rfl,fE (oV HB2.out _) (He _) _ _ _ _ _⟩
  ·have hge:¬(y.size:Int)≤(s.size:Int)-(i:Int):=by omega
   have hge':decide ((y.size:Int)≤(s.size:Int)-(i:Int))=false:=by simpa using hge
   have hff:fT s i y=false:=by unfold fT;rw[decide_eq_false h1];rfl
   rw[hff] at HNEXT HEND;clear hff hge h1
   go_upto_region 26 with(fail)
   go_quiet (fail)
   go_wp2;go_roundw
   case rel=>exact HNEXT.out rfl _
   case measure=>simp[intOf];omega
theorem yf:∀x∈fB,0<x.size:=by decide
theorem Ca {s:ByteArray}{i:Nat}{t:zY}(hi:i<s.size)(h:Ai s i=some t):i+t.2.1.size≤s.size∧0<t.2.1.size:=by
 unfold Ai at h
 split at h
 ·rename_i hl
  split at h
  ·obtain rfl:=Hl h
   have:=gL s (s.size-i) i;have h1:i+1≤bX s (s.size-i) i:=by
    rw[show s.size-i=s.size-i-1+1 by omega];unfold bX;rw[hl,Bool.true_or,if_pos rfl];exact(gL s _ _).1
   simp only[ByteArray.size_extract];omega
  ·cases h
 ·split at h
  ·split at h
   ·obtain rfl:=Hl h
    simp only[ByteArray.size_extract];omega
   ·cases h
  ·obtain⟨g,hg,rfl⟩:=Option.map_eq_some_iff.1 h
   have h2:=yf g (List.mem_of_find?_eq_some hg);have:=(List.find?_some hg)
   unfold fT at this;rw[Bool.and_eq_true] at this;have:=of_decide_eq_true this.1
   show i+g.size≤s.size∧0<g.size
   omega
theorem yg (s:ByteArray)(i:Nat)(t:zY)(w:H5)(hs:s.size≤9000000)(hi:i<s.size)(h:Ai s i=some t):
  zP 168 #[.string s,.int .i64 (i:Int)] w (.tuple #[BZ t.1 t.2.1 t.2.2,.int .i64 0]):=by
 unfold Ai at h
 split at h
 ·rename_i hl
  split at h
  ·rename_i h40
   obtain rfl:=Hl h;exact Aj s i w hs hi hl h40
  ·cases h
 ·rename_i hl
  have hl':eH (eu s i)=false:=by simpa using hl
  split at h
  ·rename_i hd
   split at h
   ·rename_i h2
    obtain rfl:=Hl h;have h3:=h2.2;rw[Bool.or_eq_false_iff] at h3;exact yc s i w hs h2.1 hl' hd h3.2 h3.1
   ·cases h
  ·rename_i hd
   obtain⟨g,hg,rfl⟩:=Option.map_eq_some_iff.1 h;exact Ak s g i w hs hi hl' (by simpa using hd) hg
theorem Dq:(prog.info? 263).map (fun i=>(i.zero,i.size,i.bytes))=some (some (.agg #[.int .i64 0,.string ⟨#[]⟩,.int .i64 0,.int .i64 0,.int .i64 0]),5,48):=by kernel_rfl
def sG (t:Tok):List Value:=t.cells.toList
theorem aT {w:H5}{base base':Nat}{e:TypeId}{size n:Nat}{v:Value}{xs:List Value}(h:w.ownsRow base e size v n xs)(hb:base'≤base):w.ownsRow base' e size v n xs:=by
 refine⟨h.1, ?_⟩;rcases h.2 with h|⟨g,cap,cur,h1,h2,h3⟩
 ·exact .inl h
 ·exact .inr ⟨g,cap,cur,h1,by omega,h3⟩
def Cb (w:H5)(l:List zY)(e:Ending)(w':H5):Prop:=
 ∃(v:Value) (T:List Tok),e= .returned (.tuple #[v,.agg #[.int .i64 0,.int .i64 0,.int .i64 0,.int .i64 0]])∧w'.ownsRow w.heap.size 263 5 v T.length (T.flatMap sG)∧T.map Tok.sig=l++[(5,⟨#[]⟩,0)]∧H9 w.heap.size w w'
def Dr (s:ByteArray)(N:Nat)(w:H5)(R:List zY)(A k:Nat)(v:Value)(wr:H5):Prop:=
 ∃(T:List Tok) (l:List zY) (n:Nat) (a b:Int),k≤s.size∧kP s n k=some l∧R=T.map Tok.sig++l∧T.length≤k∧wr.ownsRow (A+1) 263 5 v T.length (T.flatMap sG)∧
  wr.heap[A]?=some (.cells #[.int .i64 a,.int .i64 b] 40 (0,0))∧wr.heap[N]?=some (.cells #[.int .i64 0,.int .i64 0,.int .i64 0,.int .i64 0] 113 (0,0))∧H9 N w wr
theorem vT (s:ByteArray)(R:List zY)(n0:Nat)(w:H5)(hs:s.size≤1000000)(hns:mV s)(h0:s.size≠0)(hR:kP s n0 (fG s s.size 0)=some R):
  Calls prog 128 #[.string s] w (Cb w R):=by
 obtain⟨N,hN⟩:=zE w.heap.size;have hs9:s.size≤9000000:=by omega
 have HSK:Ia (∀(i:Nat)(W:H5),i≤s.size→zS 166 #[.string s,.int .i64 (i:Int)] W (.int .i64 (fG s (s.size-i) i:Nat))):=fun i W hi=>vR s i W hns hs9 hi;have HPL:Ia (∀(s:ByteArray)(n:Nat)(w:H5),s.size≤9000000→n≤s.size→Calls prog 167 #[.string s,.int .i64 (n:Int)] w (BC w)):=sD;have HON:Ia (∀(i:Nat)(t:zY)(w:H5),i<s.size→Ai s i=some t→zP 168 #[.string s,.int .i64 (i:Int)] w (.tuple #[BZ t.1 t.2.1 t.2.2,.int .i64 0])):=fun i t w hi h=>yg s i t w hs9 hi h;have hS0:=HSK.out 0;rw[Nat.sub_zero] at hS0;obtain⟨k0,hk0⟩:=zE (fG s s.size 0);rw[hk0] at hS0 hR;have hkb:=kN s s.size 0;rw[hk0] at hkb;have hk0s:k0≤s.size:=by omega
 have HS0:=zH hS0;obtain⟨W1,hW1⟩:=zE (w.alloc (.cells #[.int .i64 0,.int .i64 0,.int .i64 0,.int .i64 0] 113));have hb1:=gZ hW1 hN;have hs1:W1.heap.size=N+1:=by rw[←hW1];simp[hN]
 have hr1:W1.heap[N]?=some (.cells #[.int .i64 0,.int .i64 0,.int .i64 0,.int .i64 0] 113 (0,0)):=by rw[←hW1,←hN];exact alloc_at _ _
 have HW1:=zH hW1;have HB1:=zH hb1;have HS1:=zH hs1;have HR1:=zH hr1;have HR:=zH hR;have HN:=zH hN;have hsm:decide (1048576<(s.size:Int))=false:=by rw[decide_eq_false_iff_not];omega
 clear hns hS0 hk0 hkb hW1 hb1 hs1 hr1 hR;go_enter func128,ntmps128
 go_upto_region 5 with(go_at_call 166;refine(HS0.out _ (Hg _)).mono ?_;rintro e w2 ⟨rfl,rfl⟩)
 rw[HW1.out];have hst:∀(w:H5)(a b:Int)(c:Array Value),c.size=2→(storeCells ⟨w.heap.size,0,none⟩ [.int .i64 a,.int .i64 b] 0).run prog (w.alloc (.cells c 40))= .ok () (w.alloc (.cells #[.int .i64 a,.int .i64 b] 40)):=fun w a b c hc=>
  run_storeCells_new (P:=prog) w 40 c #[.int .i64 a,.int .i64 b] (by show _=some 2;kernel_rfl) hc (by simp[Value.oneCell'])
 have HST:=zH hst;clear hst
 go_upto_region 6 with(go_at_call 167;refine(HPL.out s k0 _ hs9 hk0s).mono ?_;rintro e w3 ⟨a,b,rfl,ha0,ha,hb0,hb,hb3⟩;have HB3:=zH hb3;clear hb3;have hst3:=HST.out w3 a b)
 clear hst3;obtain⟨A,hA⟩:=zE w3.heap.size;obtain⟨W4,hW4⟩:=zE (w3.alloc (.cells #[.int .i64 a,.int .i64 b] 40));rw[hA,hW4];have hAN:N+1≤A:=by rw[←hA,←HS1.out];exact HB3.out.size
 have hrA:W4.heap[A]?=some (.cells #[.int .i64 a,.int .i64 b] 40 (0,0)):=by rw[←hW4,←hA];exact alloc_at _ _
 have hb4:=zD hW4 HB3;have hI0:Dr s N w R A k0 (.slice none 0 0) W4:=⟨[],R,n0,a,b,hk0s,HR.out,rfl,Hg _,World.ownsRow_nil _ _ _ _,hrA,(hb4.block N (by have:=HS1.out;omega)).trans HR1.out,HB1.out.trans (hb4.mono (by have:=HS1.out;omega))⟩
 have HI0:=zH hI0;clear hA hW4 hrA hb4 hI0 HB3 HR HW1 HB1 HS1 HR1 HS0 ha0 ha hb0 hb
 go_loopw [4,5] (fun v k wr=>∃j:Nat,k= .int .i64 (j:Int)∧Dr s N w R A j v wr) (fun _ k _=>s.size-(intOf k).toNat)
 case atStart=>exact⟨k0,rfl,HI0.out⟩
 case round=>
  obtain⟨j,rfl,T,l,n,a',b',hj,hl,hRl,hTj,hown,hrA,hrN,hbN⟩:=hrel;have hAl:A+1≤wr.heap.size:=ae hrA;have hTl:T.length≤1000000:=by omega
  obtain⟨a0,a1⟩:=bZ hrA;obtain⟨c0,c1⟩:=lJ hrN;obtain⟨⟨p0,p1⟩,⟨q0,q1⟩,hAlt⟩:=bZ hrA;obtain⟨⟨e0,e1,e2,e3⟩,⟨f0,f1,f2,f3⟩,hNlt⟩:=lJ hrN;clear a0 a1 c0 c1;have HOWN:=zH hown;have HRA:=zH hrA;have HRN:=zH hrN;have HBN:=zH hbN;have HRL:=zH hRl;have HL:=zH hl;obtain⟨i0,hi0,hi1,hi2,hi3⟩:=info_parts Dq;clear hown hrA hrN hbN hRl hl
  by_cases hjl:j<s.size
  ·have hjI:(j:Int)<(s.size:Int):=by omega
   obtain⟨tk,l2,n2,hone,hl2,hll⟩:∃tk l2 n2,Ai s j=some tk∧kP s n2 (fG s (s.size-(j+tk.2.1.size)) (j+tk.2.1.size))=some l2∧l=tk::l2:=by
    have:=HL.out;cases n with
    |zero=>simp[kP] at this
    |succ n=>
     unfold kP at this;rw[if_pos hjl] at this
     split at this
     ·rename_i tk htk
      obtain⟨l2,h1,h2⟩:=Option.map_eq_some_iff.1 this;exact⟨tk,l2,n,htk,h1,h2.symm⟩
     ·cases this
   have hsz:=Ca hjl hone;have HON1:=zH (HON.out j tk wr hjl hone);obtain⟨kd,tx,nn⟩:=tk;obtain⟨z,hz⟩:=zE tx.size;simp only[hz] at hsz hl2;obtain⟨hjz,hz0⟩:=hsz;obtain⟨k2,hk2⟩:=zE (fG s (s.size-(j+z)) (j+z));have hkb:=kN s (s.size-(j+z)) (j+z);have hS2:=HSK.out (j+z);rw[hk2] at hS2 hl2 hkb;rw[Int.natCast_add] at hS2;have hk2s:k2≤s.size:=by omega
   have hjk:j+z≤k2:=hkb.1;have HS2:=zH hS2;have HL2:=zH hl2;have HLL:=zH hll;have HZ:=zH hz;clear hS2 hl2 hll hkb hk2 hone;have hst:∀(w:H5)(c:Array Value),c.size=5→(storeCells ⟨w.heap.size,0,none⟩ [.int .i64 kd,.string tx,.int .i64 nn,.int .i64 0,.int .i64 0] 0).run prog (w.alloc (.cells c 263))= .ok () (w.alloc (.cells #[.int .i64 kd,.string tx,.int .i64 nn,.int .i64 0,.int .i64 0] 263)):=fun w c hc=>
    run_storeCells_new (P:=prog) w 263 c #[.int .i64 kd,.string tx,.int .i64 nn,.int .i64 0,.int .i64 0] (by show _=some 5;kernel_rfl) hc (by simp[Value.oneCell'])
   have HST5:=zH hst;clear hst
   go_upto_region 10 with(go_at_call 168;refine HON1.out.mono ?_;rintro e w2 ⟨rfl,hb2⟩;have HB2:=zH hb2;clear hb2;have hst2:=HST5.out w2;unfold BZ)
   clear hst2;obtain⟨G,hG⟩:=zE w2.heap.size;obtain⟨W5,hW5⟩:=zE (w2.alloc (.cells #[.int .i64 kd,.string tx,.int .i64 nn,.int .i64 0,.int .i64 0] 263));rw[hG,hW5];have hGA:wr.heap.size≤G:=by rw[←hG];exact HB2.out.size
   have hb5:=zD hW5 HB2;have hs5:W5.heap.size=G+1:=by rw[←hW5,←hG];simp
   have hrG:W5.heap[G]?=some (.cells #[.int .i64 kd,.string tx,.int .i64 nn,.int .i64 0,.int .i64 0] 263 (0,0)):=by rw[←hW5,←hG];exact alloc_at _ _
   have hrA5:=(hb5.block A hAl).trans HRA.out;obtain⟨⟨p0,p1⟩,⟨q0,q1⟩,hA5⟩:=bZ hrA5;obtain⟨⟨g0,g1,g2,g3,g4⟩,⟨f0,f1,f2,f3,f4⟩,hG5⟩:=fe hrG;have HB5:=zH hb5;have HRG:=zH hrG;have HRA5:=zH hrA5;clear hG hW5 hb5 hrG hrA5 HB2
   go_upto_region 11 with(fail)
   obtain⟨W6,hW6⟩:=zE ((W5.setCell ⟨G,3,none⟩ (.int .i64 a')).setCell ⟨G,4,none⟩ (.int .i64 b'));rw[hW6];have hx6:Ext (·=G) W5 W6:=by rw[←hW6];exact(Ext.set1 W5 G 3 _).trans (Ext.set1 _ G 4 _) (fun k hk=> .inl hk)
   have hrG6:W6.heap[G]?=some (.cells #[.int .i64 kd,.string tx,.int .i64 nn,.int .i64 a',.int .i64 b'] 263 (0,0)):=by
    rw[←hW6];have h1:=Hz W5 G 3 _ _ (.int .i64 a') HRG.out;have h2:=Hz _ G 4 _ _ (.int .i64 b') h1;exact h2
   have hs6:W6.heap.size=G+1:=by rw[←hW6];simp[hs5]
   have hx06:Ext (·=G) wr W6:=(Ext.of_below_size HB5.out).trans hx6 (fun k hk=> .inl hk);have hown6:W6.ownsRow (A+1) 263 5 u4 T.length (T.flatMap sG):=ah HOWN.out hx06 (fun k hk=>by have:=(ai HOWN.out hk).2;omega);have hrA6:=hx06.heap HRA.out (by omega);have hrN6:=hx06.heap HRN.out (by omega);have HX06:=zH hx06;have HRG6:=zH hrG6;have HOWN6:=zH hown6;have HRA6:=zH hrA6;have HRN6:=zH hrN6;obtain⟨⟨g0,g1,g2,g3,g4⟩,⟨f0,f1,f2,f3,f4⟩,hG6⟩:=fe hrG6;clear hW6 hx6 hrG6 hx06 hown6 hrA6 hrN6 p0 p1 q0 q1 hs5
   go_upto_region 12 with(at_builtin;refine jq rfl (.tmp 39) (.tmp 41) 226 rfl (A+1) 263 i0 _ 5 48 underlying226 hi0 hi1 hi2 hi3 rfl (by decide) _ T.length (T.flatMap sG) rfl HOWN6.out (G+1) #[.int .i64 kd,.string tx,.int .i64 nn,.int .i64 a',.int .i64 b'] hs6.symm rfl rfl (by simp[Value.oneCell']) (by unfold maxLen;omega) (by omega) (by omega) ?_;intro v7 w7 hown7 hx7 hat7;have HO7:=zH hown7;have HX7:=zH hx7;clear hown7 hx7 hat7)
   have hown7:=HOWN6.out;have hrG7:=HX7.out.heap HRG6.out (fun h=>by have:=(ai HOWN.out h).2;omega);have hrA7:=HX7.out.heap HRA6.out (fun h=>by have:=(ai HOWN.out h).1;omega);have hrN7:=HX7.out.heap HRN6.out (fun h=>by have:=(ai HOWN.out h).1;omega);obtain⟨⟨g0,g1,g2,g3,g4⟩,⟨f0,f1,f2,f3,f4⟩,hG7⟩:=fe hrG7;have hb87:A+1≤w7.heap.size:=by omega
   have HRA7:=zH hrA7;have HRN7:=zH hrN7;clear hrG7 hrA7 hrN7;have hsx:s.extract j k2=s.extract j k2:=rfl;have hsxs:(s.extract j k2).size=k2-j:=by rw[ByteArray.size_extract];omega
   have HPC:=HPL.out (s.extract j k2) (k2-j) w7 (by omega) (by omega);rw[Int.ofNat_sub (by omega)] at HPC;have HPX:=zH HPC;have hjkI:(j:Int)≤(k2:Int):=by omega
   have hk2I:(k2:Int)≤(s.size:Int):=by omega
   clear hsx hsxs HPC
   go_upto_region 14 with(first
    |(go_at_call 166;refine(HS2.out _ hjz).mono ?_;rintro e w8 ⟨rfl,rfl⟩)
    |(go_at_call 167;refine HPX.out.mono ?_;rintro e w8 ⟨a2,b2,rfl,ha0,ha,hb0,hb,hb8⟩;have HB8:=zH hb8;clear hb8;have hst8:=HST.out w8 a2 b2))
   clear hst8;obtain⟨C,hC⟩:=zE w8.heap.size;obtain⟨W9,hW9⟩:=zE (w8.alloc (.cells #[.int .i64 a2,.int .i64 b2] 40));rw[hC,hW9];have hb9:=zD hW9 HB8;have hC7:w7.heap.size≤C:=by rw[←hC];exact HB8.out.size
   have hrC:W9.heap[C]?=some (.cells #[.int .i64 a2,.int .i64 b2] 40 (0,0)):=by rw[←hW9,←hC];exact alloc_at _ _
   have hrA9:=(hb9.block A (by omega)).trans HRA7.out;have hrN9:=(hb9.block N (by omega)).trans HRN7.out;obtain⟨⟨p0,p1⟩,⟨q0,q1⟩,hA9⟩:=bZ hrA9;obtain⟨⟨r0,r1⟩,⟨s0,s1⟩,hC9⟩:=bZ hrC;have hown9:=ownsRow_below HO7.out hb9;have HOWN9:=zH hown9;have HRA9:=zH hrA9;have HRN9:=zH hrN9;have hbN9:H9 N w W9:=HBN.out.trans ((HX06.out.below (by omega) (fun k hk=>by omega)).trans ((HX7.out.below (by omega) (fun k hk=>by have:=(ai HOWN.out hk).1;omega)).trans (hb9.mono (by omega))));have HBN9:=zH hbN9;have hTL:(T++[(⟨kd,tx,nn,a',b'⟩:Tok)]).flatMap sG=T.flatMap sG++[.int .i64 kd,.string tx,.int .i64 nn,.int .i64 a',.int .i64 b']:=by rw[List.flatMap_append];rfl
   have HFIN:Ia (∀(x y:Int)(W:H5),Ext (·=A) W9 W→W.heap[A]?=some (.cells #[.int .i64 x,.int .i64 y] 40 (0,0))→Dr s N w R A k2 v7 W):=fun x y W hx hA=>
    ⟨T++[⟨kd,tx,nn,a',b'⟩],l2,n2,x,y,hk2s,HL2.out,by rw[HRL.out,HLL.out,List.map_append,Hr];rfl,by rw[GU];simp;omega,
     by rw[hTL,GU];exact ah HOWN9.out hx (fun k hk=>by have:=(ai HOWN9.out hk).1;omega),hA,hx.heap HRN9.out (by omega),HBN9.out.trans (hx.below (by omega) (fun k hk=>by omega))⟩
   clear hC hW9 hb9 hrC hrA9 hrN9 hown9 hbN9 hTL HB8
   by_cases ha1:1<a2
   ·go_wp2
    go_roundw
    case rel=>exact⟨k2,rfl,HFIN.out _ _ _ ((Ext.set1 W9 A 0 _).trans (Ext.set1 _ A 1 _) (fun k hk=> .inl hk)) (bf HRA9.out)⟩
    case measure=>simp[intOf];omega
   ·go_wp2
    go_roundw
    case rel=>exact⟨k2,rfl,HFIN.out _ _ _ (Ext.set1 W9 A 1 _) (Hz W9 A 1 _ _ _ HRA9.out)⟩
    case measure=>simp[intOf];omega
  ·have hjI:¬(j:Int)<(s.size:Int):=by omega
   have hle:l=[]:=by
    have:=HL.out;cases n with
    |zero=>simp[kP] at this
    |succ n=>unfold kP at this;rw[if_neg hjl] at this;simpa using this.symm
   have HLE:=zH hle;clear hle
   go_wp2_with (at_builtin;refine jq rfl (.tmp 78) (.tmp 81) 226 rfl (A+1) 263 i0 _ 5 48 underlying226 hi0 hi1 hi2 hi3 rfl (by decide) _ T.length (T.flatMap sG) rfl HOWN.out wr.heap.size #[.int .i64 5,.string ⟨#[]⟩,.int .i64 0,.int .i64 a',.int .i64 b'] rfl rfl rfl (by simp[Value.oneCell']) (by unfold maxLen;omega) (by omega) (by omega) ?_;intro v7 w7 hown7 hx7 hat7;have HO7:=zH hown7;have HX7:=zH hx7;have hr7:=hx7.heap HRN.out (fun h=>by have:=(ai HOWN.out h).1;omega);obtain⟨⟨e0,e1,e2,e3⟩,⟨f0,f1,f2,f3⟩,hNlt⟩:=lJ hr7;have HR7:=zH hr7;clear hown7 hx7 hat7 hr7)
   (try simp only[Exit.inBlock,Exit.then]);refine bodyPost_ret (gN rfl _ _ N 113 _ (0,0) _ rfl (iX HR7.out) underlying113 (by kernel_rfl)) rfl ?_;refine⟨v7,T++[⟨5,⟨#[]⟩,0,a',b'⟩],rfl, ?_, ?_, ?_⟩
   ·rw[HN.out]
    have h1:=HO7.out;rw[show(T++[(⟨5,⟨#[]⟩,0,a',b'⟩:Tok)]).flatMap sG=T.flatMap sG++[.int .i64 5,.string ⟨#[]⟩,.int .i64 0,.int .i64 a',.int .i64 b'] by rw[List.flatMap_append];rfl,GU];exact aT (ownsRow_setCell_below (ownsRow_setCell_below (ownsRow_setCell_below (ownsRow_setCell_below h1 (by show N<_;omega) _) (by show N<_;omega) _) (by show N<_;omega) _) (by show N<_;omega) _) (by omega)
   ·rw[List.map_append,HRL.out,HLE.out,List.append_nil];rfl
   ·rw[HN.out]
    exact qB (HBN.out.trans (HX7.out.below (by omega) (fun k hk=>by have:=(ai HOWN.out hk).1;omega))) (He _) _ _ _ _
structure Rd (r lb cap:Nat)(T:List Tok)(i:Nat)(w:H5):Prop where
 row:w.heap[r]?=some (.cells #[.slice (some ⟨lb,0,none⟩) T.length cap,.int .i64 (i:Int),.int .i64 0,.int .i64 0,.int .i64 0,.int .i64 0] 269 (0,0))
 toks:∀(k:Nat)(t:Tok),T[k]?=some t→∀(j:Nat)(u:Value),t.cells.toList[j]?=some u→w.cell? ⟨lb,k*5+j,none⟩=some u
 ne:lb≠r
 lt:lb<w.heap.size
 short:T.length≤1000000
section
variable {r lb cap:Nat}{T:List Tok}{i:Nat}{w w':H5}
theorem Rd.ext {M:Nat→Prop}(h:Rd r lb cap T i w)(hx:Ext M w w')(hr:¬M r)(hl:¬M lb):Rd r lb cap T i w':=
 ⟨hx.heap h.row hr,fun k t ht j u hu=>by rw[hx.cell (a:=⟨lb,k*5+j,none⟩) h.lt hl];exact h.toks k t ht j u hu,h.ne,Hd h.lt hx.size,h.short⟩
theorem Rd.grow (h:Rd r lb cap T i w)(hb:H9 w.heap.size w w'):Rd r lb cap T i w':=h.ext (Ext.of_below_size (M:=fun _=>False) hb) (fun h=>h) (fun h=>h)
theorem Rd.rlt (h:Rd r lb cap T i w):r<w.heap.size:=ae h.row
theorem Rd.step (h:Rd r lb cap T i w):Rd r lb cap T (i+1) (w.setCell ⟨r,1,none⟩ (.int .i64 ((i:Int)+1))):=
 ⟨by have:=Hz w r 1 _ _ (.int .i64 ((i:Int)+1)) h.row;rw[this];simp,fun k t ht j u hu=>by rw[(Ext.set1 w r 1 _).cell (a:=⟨lb,k*5+j,none⟩) h.lt h.ne];exact h.toks k t ht j u hu,h.ne,by rw[World.size_setCell];exact h.lt,h.short⟩
theorem Rd.cells (h:Rd r lb cap T i w):w.cell? ⟨r,0,none⟩=some (.slice (some ⟨lb,0,none⟩) T.length cap)∧w.cell? ⟨r,1,none⟩=some (.int .i64 (i:Int))∧w.cell? ⟨r,3,none⟩=some (.int .i64 0)∧w.frozen? ⟨r,1,none⟩=false∧r<w.heap.size:=
 ⟨(rowAt h.row 0 rfl).1,(rowAt h.row 1 rfl).1,(rowAt h.row 3 rfl).1,(rowAt h.row 1 rfl).2,ae h.row⟩
end
def bK (r lb cap:Nat)(T:List Tok)(j:Nat)(w w':H5):Prop:=Rd r lb cap T j w'∧Ext (·=r) w w'
theorem bK.trans {r lb cap:Nat}{T:List Tok}{j j':Nat}{w w1 w2:H5}(h:bK r lb cap T j w w1)(h2:bK r lb cap T j' w1 w2):bK r lb cap T j' w w2:=⟨h2.1,h.2.trans h2.2 (fun _ hk=> .inl hk)⟩
theorem bK.grow {r lb cap:Nat}{T:List Tok}{j:Nat}{w w1 w2:H5}(h:bK r lb cap T j w w1)(hb:H9 w1.heap.size w1 w2):bK r lb cap T j w w2:=⟨h.1.grow hb,h.2.trans (Ext.of_below_size (M:=fun _=>False) hb) (fun _ hk=>hk.elim)⟩
theorem bK.grown {r lb cap:Nat}{T:List Tok}{j:Nat}{w w1 w2:H5}(hb:H9 w.heap.size w w1)(h:bK r lb cap T j w1 w2):bK r lb cap T j w w2:=⟨h.1,(Ext.of_below_size hb).trans h.2 (fun _ hk=> .inl hk)⟩
theorem bu {r lb cap:Nat}{T:List Tok}{i:Nat}(w:H5)(h:Rd r lb cap T i w):zS 171 #[.pointer (some ⟨r,0,none⟩)] w (.bool false):=by
 obtain⟨_,_,c3,_,hr⟩:=h.cells;go_enter func171,ntmps171;go_wp2;go_ret;exact⟨rfl,rfl⟩
theorem bB {r lb cap:Nat}{T:List Tok}{i:Nat}{t:Tok}(w:H5)(h:Rd r lb cap T i w)(ht:T[i]?=some t):
  zP 170 #[.pointer (some ⟨r,0,none⟩)] w (.agg t.cells):=by
 obtain⟨N,hN⟩:=zE w.heap.size;obtain⟨W1,hW1⟩:=zE (w.alloc (.cells #[.int .i64 0,.string ⟨#[]⟩,.int .i64 0,.int .i64 0,.int .i64 0] 263));have hb1:=gZ hW1 hN;have h1:Rd r lb cap T i W1:=h.grow (by rw[hN];exact hb1);have hr1:W1.heap[N]?=some (.cells #[.int .i64 0,.string ⟨#[]⟩,.int .i64 0,.int .i64 0,.int .i64 0] 263 (0,0)):=by rw[←hW1,←hN];exact alloc_at _ _
 obtain⟨c0,c1,_,_,hr⟩:=h1.cells;have hil:i<T.length:=(GQ.1 ht).1;have hT:=h.short;obtain⟨⟨g0,g1,g2,g3,g4⟩,⟨f0,f1,f2,f3,f4⟩,hN1⟩:=fe hr1;have k0:=h1.toks i t ht 0 _ rfl;have k1:=h1.toks i t ht 1 _ rfl;have k2:=h1.toks i t ht 2 _ rfl;have k3:=h1.toks i t ht 3 _ rfl;have k4:=h1.toks i t ht 4 _ rfl;rw[Nat.add_zero] at k0;have hmin:min (i:Int) ((T.length:Int)-1)=(i:Int):=by omega
 have hw:IntKind.i64.wrap ((T.length:Int)-1)=(T.length:Int)-1:=IntWalk.i64_in _ (by omega);have HB1:=zH hb1;have HR1:=zH hr1;have HW1:=zH hW1;clear h h1 ht hb1 hr1 hW1;go_enter func170,ntmps170
 go_upto_region 1 with(fail)
 rw[HW1.out];refine pQ 17 0 rfl (by kernel_rfl) (by kernel_rfl) (by kernel_rfl) (·=W1.drew) rfl ?_;dsimp only[List.take]
 repeat (go_big_quiet_step (fail))
 refine wpQuiet_nil ?_;rintro _ rfl;refine wpOp_step rfl fun K' hK=> ?_;rw[if_pos (by rfl)];go_simp;refine hK _ _ ?_;refine⟨by kernel_rfl, ?_⟩;go_wp2;refine bodyPost_ret (results_cell_row (P:=prog) rfl _ _ N 263 t.cells (0,0) _ rfl (iY HR1.out) underlying263 rfl (by kernel_rfl)) rfl ?_;(try rw[hN]);exact⟨rfl,(fE HB1.out (He _) _ _ _ _ _).drew⟩
def dD (t:Tok)(s:ByteArray):Bool:=(t.kind==2||t.kind==4)&&t.text==s
theorem bi {r lb cap:Nat}{T:List Tok}{i:Nat}{t:Tok}(s:ByteArray)(w:H5)(h:Rd r lb cap T i w)(ht:T[i]?=some t):
  zP 172 #[.pointer (some ⟨r,0,none⟩),.string s] w (.bool (dD t s)):=by
 have HTK:=zH (bB w h ht);have HBD:Ia (∀W,H9 w.heap.size w W→zS 171 #[.pointer (some ⟨r,0,none⟩)] W (.bool false)):=fun W hW=>bu W (h.grow hW);have hst:∀(w:H5)(c:Array Value),c.size=5→(storeCells ⟨w.heap.size,0,none⟩ [.int .i64 t.kind,.string t.text,.int .i64 t.n,.int .i64 t.ln,.int .i64 t.cl] 0).run prog (w.alloc (.cells c 263))= .ok () (w.alloc (.cells #[.int .i64 t.kind,.string t.text,.int .i64 t.n,.int .i64 t.ln,.int .i64 t.cl] 263)):=fun w c hc=>
  run_storeCells_new (P:=prog) w 263 c #[.int .i64 t.kind,.string t.text,.int .i64 t.n,.int .i64 t.ln,.int .i64 t.cl] (by show _=some 5;kernel_rfl) hc (by simp[Value.oneCell'])
 have HST:=zH hst;obtain⟨b1,h1⟩:=zE (t.kind==2);obtain⟨b2,h2⟩:=zE (t.kind==4);obtain⟨b3,h3⟩:=zE (t.text==s);have hF:dD t s=((b1||b2)&&b3):=by unfold dD;rw[h1,h2,h3]
 have h3':(t.text.toList==s.toList)=b3:=by rw[←beq_toListBytes];exact h3
 rw[hF];simp only[Tok.cells] at HTK;cases b1<;>cases b2<;>cases b3<;>(
  go_enter func172,ntmps172
  go_wp2_with (first
   |(go_at_call 170;refine HTK.out.mono ?_;rintro e w2 ⟨rfl,hb2⟩;have hst2:=HST.out w2;have HB2:=zH hb2)
   |(go_at_call 171;refine(HBD.out _ (HB2.out.alloc HB2.out.size _)).mono ?_;rintro e w3 ⟨rfl,rfl⟩))
  go_ret;exact⟨rfl,HB2.out.alloc HB2.out.size _⟩)
end Go.Proofs.YtjomgckjhcfbgaaGreat
