import Derived.Test.YtankkcbofgighaaGreatDoorL5
import Derived.OrdersHeld
import Derived.Deep.RegionHeld3
import Derived.RangeFuncCalls
set_option linter.all false
set_option maxRecDepth 100000
set_option maxHeartbeats 40000000
namespace Go.Proofs.YtankkcbofgighaaGreatDoor
end Go.Proofs.YtankkcbofgighaaGreatDoor
namespace Go
def zrD(d:List Deferred)(Rp:List PanicEntry->World->Prop)(Q:Exit->Act->World->Prop):Exit->Act->World->Prop
|.normal,a,w=>Q .normal a w
|.panic ch,a,w=>a.defers=d/\Rp ch w
|_,_,_=>False
variable {P:Program} {ops:Array Oper} {Q Q':Exit->Act->World->Prop} {Rp:List PanicEntry->World->Prop} {d:List Deferred} {l n:Nat}
theorem zrF(a:Act)(dst:Option Tmp)(v:Value):(a.put dst v).defers=a.defers:=by cases dst <;> rfl
theorem zrr{a:Act}{dst:Option Tmp}{v:Value}{w:World}{c:List PanicEntry}(h:zrD d Rp Q (.panic c) (a.put dst v) w):zrD d Rp Q (.panic c) a w:=⟨(zrF a dst v)▸h.1,h.2⟩
theorem zrH{a₀:Act}(hQ:∀ ch a' w',a'.defers=a₀.defers->Rp ch w'->Q (.panic ch) a' w'):∀(e:Exit) (a:Act) (w:World),zrD a₀.defers Rp Q e a w->Q e a w:=fun e a w h=>by
 cases e with
|normal=>exact h
|panic ch=>exact hQ _ _ _ h.1 h.2
|ret=>exact h.elim
|exit i=>exact h.elim
|goto i=>exact h.elim
|outgrown=>exact h.elim
theorem zru{id:Nat}{b:Bool}{a:Act}{w:World}(Rp:List PanicEntry->World->Prop)(hQ:∀ ch a' w',a'.defers=a.defers->Rp ch w'->Q (.panic ch) a' w')(h:(Code.region id ops b).wp P (zrD a.defers Rp Q) a w):(Code.region id ops b).wp P Q a w:=
 Code.wp_mono (zrH hQ) h
end Go

