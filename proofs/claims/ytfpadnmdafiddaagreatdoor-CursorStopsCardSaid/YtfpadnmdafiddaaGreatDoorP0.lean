import Derived.KernelRfl
namespace Go
theorem oM {p:Prop} (h:p:=by omega):p:=h
theorem kR {p:Prop} (h:p:=by kernel_rfl):p:=h
theorem sM {p:Prop} (h:p:=by simp):p:=h
theorem dM {p:Prop} (h:p:=by decide):p:=h
theorem yE {α:Type} (b:α):∃ y,y=b:=⟨b,rfl⟩
end Go
