import Derived.Test.YtoldjgmcoekchaaGreatDoorWF
import Derived.Test.YtoldjgmcoekchaaGreatDoorTie
import Derived.JoinedOf
import Derived.SevenTiedAt
set_option linter.all false
namespace Go.Proofs.YtoldjgmcoekchaaGreatDoor
open Go
set_option maxRecDepth 1000000
set_option maxHeartbeats 0
theorem nm_viewNil:((Tryz.pinned).checked.prog).funcNamed "headwater/headwaterlaw23.ViewNil" = some 4:=by kernel_rfl
theorem cl_viewNil:((Tryz.pinned).checked.prog).closure 4=[4,10,5,27,56,105,158,159,106,118,182,58,57,107,108,162,164,165,121,73,71,119,120,183,184,70,163,237,238,321,320,312,370,371,373,319,318,236,239,309,369,322,374,311,233,310,161,235,234,232,308,313,314,315,372,316,317,160,68,117,69,109,166,240,241,324,323,168,167,242,7,30,31,72,6,16,29,17,67,28,59,60,110,169,189,273,112,176,93,264,339,307,186,338,265,111,170,243,245,244,325,326,375,171,246,327,328,376,330,379,331,247,329,377,341,406,378,249,248,251,250,253,333,332,380,252,334,335,254,173,174,262,269,178,267,266,340,268,342,344,343,177,263,337,381,382,407,383,175,255,256,172,257,258,336,259,260,261,61,113,114,179,62,63,115,64,45,65,66,116,181,272,180,270,345,271,231,306,346,384,385,408,386,365,366,387,409,410,418,388,389,390,391,9,8,32,74,33,75,122,76,34,11,35,77,85,86,78,123,79,124,185,80,36,81,82,83,125,187,126,188,84,127,37,87,128,38,12,39,40,41,88,129,190,131,130,132,42,43,47,89,133,134,191,207,135,192,193,194,274,347,392,411,348,195,275,349,350,276,351,352,393,412,196,197,198,199,277,200,201,202,278,203,279,353,354,394,395,413,419,204,280,355,205,206,136,137,208,90,138,209,210,139,211,281,46,91,92,142,216,292,217,218,143,144,145,140,212,52,53,97,151,98,99,152,227,153,101,154,228,100,103,157,102,155,229,156,230,297,303,298,364,299,300,367,368,405,301,302,304,305,213,141,214,282,283,356,357,396,414,397,284,358,286,359,398,415,285,287,360,399,416,289,361,400,417,288,290,362,401,215,291,363,402,403,404,44,13,26,21,50,96,150,222,18,48,94,146,219,221,293,295,223,147,224,294,220,95,148,149,225,226,296,19,49,20,14,22,51,23,24,15,25,54,104,55]:=by kernel_rfl
theorem ip_viewNil:(Rows.viewNilRow.inPlace==((Tryz.pinned).checked.prog).inPlace 4)=true:=by
 unfold Program.inPlace;rw [cl_viewNil];kernel_rfl
theorem uf_viewNil:(Rows.viewNilRow.unfollowed==((Tryz.pinned).checked.prog).unfollowed 4)=true:=by
 unfold Program.unfollowed;rw [cl_viewNil];kernel_rfl
theorem rc_viewNil:(Rows.viewNilRow.recurses==((Tryz.pinned).checked.prog).recurses 4)=true:=by
 unfold Program.recurses Program.unfollowed;rw [cl_viewNil];kernel_rfl
theorem vn_viewNil:(Rows.viewNilRow.named==((Tryz.pinned).checked.prog).varsNamed 4)=true:=by
 unfold Program.varsNamed;rw [cl_viewNil];kernel_rfl
theorem go_viewNil:false=Rows.viewNilRow.goesBy ((Tryz.pinned).checked.prog):=by
 show false=((((Tryz.pinned).checked.prog).funcNamed "headwater/headwaterlaw23.ViewNil").any ((Tryz.pinned).checked.prog).goes || false)
 rw [nm_viewNil]
 show false=(((Tryz.pinned).checked.prog).goes 4 || false)
 unfold Program.goes Program.unfollowed
 rw [cl_viewNil]
 kernel_rfl
theorem lo_viewNil:laidOutB ((Tryz.pinned).checked.prog)=true:=laid_out
theorem mr_viewNil:mapsRowed ((Tryz.pinned).checked.prog)=true:=by kernel_rfl
theorem jf_viewNil:joinedFacts ((Tryz.pinned).checked.prog) 4 Tryz.f4 Rows.viewNilSpec Rows.viewNilRow=true:=by
 unfold joinedFacts
 rw [lo_viewNil,mr_viewNil,ip_viewNil,uf_viewNil,rc_viewNil,vn_viewNil]
 kernel_rfl
end Go.Proofs.YtoldjgmcoekchaaGreatDoor
