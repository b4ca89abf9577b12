/- Walks. -/
import Derived.Test.YtjomgckjhcfbgaaGreatY24
set_option maxRecDepth 100000
set_option maxHeartbeats 64000000
set_option linter.all false
namespace Go.Proofs.YtjomgckjhcfbgaaGreat
open Go.RowKit
open _root_ renaming Bool→nj
open _root_.Option renaming some→tB
open _root_.Bool renaming true→tE
open Tryz
theorem bu {a b:nj}(h:a=tE)(k:b=tE):(a&&b)=tE:=by rw[h,k];rfl
theorem vT:(laidOutB Tryz.pinned.checked.prog)=tE:=by kernel_rfl
theorem vU:(mapsRowed Tryz.pinned.checked.prog)=tE:=by kernel_rfl
theorem vV:((Rows.pointsSetsRow.inPlace==Tryz.pinned.checked.prog.inPlace 9))=tE:=by kernel_rfl
theorem ut:((Rows.pointsSetsRow.unfollowed==Tryz.pinned.checked.prog.unfollowed 9))=tE:=by kernel_rfl
theorem uw:((Rows.pointsSetsRow.recurses==Tryz.pinned.checked.prog.recurses 9))=tE:=by kernel_rfl
theorem uy:((Rows.pointsSetsRow.named==Tryz.pinned.checked.prog.varsNamed 9))=tE:=by kernel_rfl
theorem uz:((Rows.pointsSetsRow.loops==(Tryz.f9.params.toList++Rows.pointsSetsSpec.plain.varTypes Tryz.pinned.checked.prog).any (Tryz.pinned.checked.prog.loopsFrom ·)))=tE:=by kernel_rfl
theorem uA:(Tryz.pinned.checked.prog.stopsHeard)=tE:=by kernel_rfl
theorem uB:(Tryz.pinned.checked.prog.mayEnter)=tE:=by kernel_rfl
theorem uD:((Rows.pointsSetsRow.lifted==Tryz.pinned.checked.prog.liftsFinal))=tE:=by kernel_rfl
theorem uE:((Tryz.pinned.checked.prog.make==tB Rows.pointsSetsRow.make))=tE:=by kernel_rfl
theorem pointsSets_closed:joinedFacts Tryz.pinned.checked.prog 9 Tryz.f9 Rows.pointsSetsSpec Rows.pointsSetsRow=tE:=by
 unfold joinedFacts;exact bu (bu (bu (bu (bu (bu (bu (bu (bu (bu (bu (bu (bu (bu (bu (bu (bu (bu (bu (bu (bu (bu (bu (bu (bu (bu (bu (bu (bu (bu (bu (by kernel_rfl) vT) vU) (by kernel_rfl)) (by kernel_rfl)) (by kernel_rfl)) (by kernel_rfl)) (by kernel_rfl)) (by kernel_rfl)) vV) ut) uw) uy) (by kernel_rfl)) (by kernel_rfl)) (by kernel_rfl)) uz) (by kernel_rfl)) (by kernel_rfl)) (by kernel_rfl)) (by kernel_rfl)) (by kernel_rfl)) (by kernel_rfl)) (by kernel_rfl)) uA) uB) uD) uE) (by kernel_rfl)) (by kernel_rfl)) (by kernel_rfl)) (by kernel_rfl)
end Go.Proofs.YtjomgckjhcfbgaaGreat
