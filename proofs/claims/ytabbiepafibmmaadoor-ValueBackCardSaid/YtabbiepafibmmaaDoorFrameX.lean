/- The frame's tables, with those of FormatInt and ParseInt. Conditions: none. -/
import Derived.Test.YtabbiepafibmmaaDoorFrameC
import Derived.Test.YtabbiepafibmmaaDoorVu
import Derived.Lib.LaidTab
namespace Go.Proofs.YtabbiepafibmmaaDoor
open Go.ChangeShapes Go.WideShapes Go.ChangeAt Go.RowKit Go.Deep
theorem pow_data : (Rows.laid_internal_strconv_uint64pow10 : DataW Unit) = Lib.tabData .u64 Lib.pow10Tab := rfl
set_option maxRecDepth 100000 in
theorem of_laidX {W : World} (h : laidMetH Tryd.prog LD W) (hs : W.ShapedOpen Tryd.prog) : TabX W := by
  have ht := of_laid h hs
  rw [MakeChecks.laidMetH_plain _ _ _ (by kernel_rfl)] at h
  obtain ⟨_, _, her, _⟩ := laid_sentinel h.tail.tail.tail.tail (show Tryd.prog.globalNamed "strconv.ErrRange" = some 5 by kernel_rfl) (show (Tryd.prog.globals[5]?).map (·.type) = some 60 by kernel_rfl) Tryd.underlying60 errRow Tryd.underlying128 Tryd.underlying130 rfl rfl Tryd.underlying9 (by kernel_rfl) (by kernel_rfl)
  have hp : Lib.TabIs Tryd.prog W "internal/strconv.uint64pow10" .u64 Lib.pow10Tab := Lib.tabIs_of_head (show Tryd.prog.globalNamed "internal/strconv.uint64pow10" = some 3 by kernel_rfl) (show (Tryd.prog.globals[3]?).map (·.type) = some 107 by kernel_rfl) Tryd.underlying107 Tryd.underlying26 (by kernel_rfl) (by kernel_rfl) (pow_data ▸ h.tail.tail)
  exact ⟨ht, hp, _, _, her⟩
end Go.Proofs.YtabbiepafibmmaaDoor
