import Derived.Test.YtfpadnmdafiddaaGreatDoorKa
import Derived.Test.YtfpadnmdafiddaaGreatDoorTie
import Derived.JoinedOf
import Derived.SevenTiedAt
set_option linter.all false
namespace Go.Proofs.YtfpadnmdafiddaaGreatDoor
open Go
set_option maxRecDepth 1000000
set_option maxHeartbeats 0
theorem nm_versionSweeps:((Tryz.pinned).checked.prog).funcNamed "headwater/headwaterlaw14.VersionSweeps" = some 12:=by kernel_rfl
theorem cl_versionSweeps:((Tryz.pinned).checked.prog).closure 12=[12,66,69,75,147,187,144,71,143,73,70,74,67,141,68,142,184,92,18,72,28,85,86,155,102,145,93,50,128,91,129,171,123,170,214,215,169,213,252,212,250,267,249,266,251,268,270,269,211,130,87,88,156,127,174,220,221,256,257,222,223,258,273,275,259,233,244,225,224,188,189,80,196,83,139,182,228,183,229,90,159,200,185,186,230,89,157,197,158,199,243,198,234,240,235,260,236,261,262,237,263,264,274,238,239,241,242,146,23,30,22,20,19,77,94,148,21,78,149,150,79,151,81,152,190,231,82,153,191,160,201,245,161,202,246,192,99,96,98,97,194,193,84,154,195,232,45,122,124,25,100,162,76,27,101,163,95]:=by kernel_rfl
theorem go_versionSweeps:false=Rows.versionSweepsRow.goesBy ((Tryz.pinned).checked.prog):=by
 show false=((((Tryz.pinned).checked.prog).funcNamed "headwater/headwaterlaw14.VersionSweeps").any ((Tryz.pinned).checked.prog).goes || false)
 rw [nm_versionSweeps]
 show false=(((Tryz.pinned).checked.prog).goes 12 || false)
 unfold Program.goes Program.unfollowed
 rw [cl_versionSweeps]
 kernel_rfl
end Go.Proofs.YtfpadnmdafiddaaGreatDoor
