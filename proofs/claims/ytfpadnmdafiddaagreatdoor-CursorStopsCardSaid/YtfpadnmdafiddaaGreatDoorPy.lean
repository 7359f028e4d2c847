import Derived.Test.YtfpadnmdafiddaaGreatDoorP0
import Derived.Test.YtfpadnmdafiddaaGreatDoorPb
import Derived.Test.YtfpadnmdafiddaaGreatDoorTie
import Derived.JoinedOf
import Derived.SevenTiedAt
set_option linter.all false
namespace Go.Proofs.YtfpadnmdafiddaaGreatDoor
open Go
set_option maxRecDepth 1000000
set_option maxHeartbeats 0
theorem nm_cursorStops:((Tryz.pinned).checked.prog).funcNamed "headwater/headwaterlaw13.CursorStops" = some 8:=by kernel_rfl
theorem iA:((Tryz.pinned).checked.prog).closure 8=[8,51,53,67,141,31,32,103,68,142,184,92,20,25,77,93,50,128,85,91,129,171,123,170,214,215,169,213,252,212,250,267,249,266,251,268,270,269,211,130,94,148,21,86,155,84,154,188,189,195,233,244,232,45,122,102,124,78,127,174,220,221,256,257,222,223,258,273,275,259,225,224,80,149,139,182,228,183,229,150,79,151,97,160,201,245,96,98,161,202,246,81,152,190,231,99,100,83,162,194,37,104,105,118,106,38,110,165,164,140,114,203,247,265,173,46,125,172,218,255,217,253,254,271,272,219,216,126,107,113,166,117,204,167,205,206,207,248,208,115,108,109,119,120,111,121,35,116,168,209,210,23,36,131,54,55,87,88,156,196,95,132,175,176,226,163,227,177,133,178,180,137,56,134,57,135,136,179,52,18,41,59]:=by kernel_rfl
theorem ip_cursorStops:(Rows.cursorStopsRow.inPlace==((Tryz.pinned).checked.prog).inPlace 8)=true:=by
 unfold Program.inPlace;rw [iA];kernel_rfl
theorem uf_cursorStops:(Rows.cursorStopsRow.unfollowed==((Tryz.pinned).checked.prog).unfollowed 8)=true:=by
 unfold Program.unfollowed;rw [iA];kernel_rfl
theorem rc_cursorStops:(Rows.cursorStopsRow.recurses==((Tryz.pinned).checked.prog).recurses 8)=true:=by
 unfold Program.recurses Program.unfollowed;rw [iA];kernel_rfl
theorem vn_cursorStops:(Rows.cursorStopsRow.named==((Tryz.pinned).checked.prog).varsNamed 8)=true:=by
 unfold Program.varsNamed;rw [iA];kernel_rfl
theorem go_cursorStops:false=Rows.cursorStopsRow.goesBy ((Tryz.pinned).checked.prog):=by
 show false=((((Tryz.pinned).checked.prog).funcNamed "headwater/headwaterlaw13.CursorStops").any ((Tryz.pinned).checked.prog).goes || false);rw [nm_cursorStops];show false=(((Tryz.pinned).checked.prog).goes 8 || false);unfold Program.goes Program.unfollowed;rw [iA];kernel_rfl
theorem lo_cursorStops:laidOutB ((Tryz.pinned).checked.prog)=true:=laid_out
theorem mr_cursorStops:mapsRowed ((Tryz.pinned).checked.prog)=true:=by kernel_rfl
theorem jf_cursorStops:joinedFacts ((Tryz.pinned).checked.prog) 8 Tryz.f8 Rows.cursorStopsSpec Rows.cursorStopsRow=true:=by
 unfold joinedFacts;rw [lo_cursorStops,mr_cursorStops,ip_cursorStops,uf_cursorStops,rc_cursorStops,vn_cursorStops];kernel_rfl
end Go.Proofs.YtfpadnmdafiddaaGreatDoor
