/- Walks of functions, each by evaluation: what each returns; with the layer beneath. -/
import Derived.Test.YtdnggeocdocomaaVA
import Derived.Test.YtdnggeocdocomaaPB
set_option linter.unusedVariables false
set_option linter.unusedSimpArgs false
noncomputable section
namespace DH
set_option maxRecDepth 100000
open List (take drop replicate)
open AC renaming u8 → U8, u16 → Va, u32 → Fa, u64 → Nc, i64 → I64, b → Bb, xs → XS, gs → GS, sv → SV, ptr → PT, any → AY, ns → NS
open AV renaming one → O1, agg → AG, Ec → TU
open Go Go.Proofs
theorem ok125 : Ac Try.prog 125 Try.f125 (Na Try.f125) := .of Try.func125 (by kernel_rfl) (by kernel_rfl)
def WVB0 : WC := ⟨envP TV7 mfV2 MV2,envP_ok TV7 mfV2 MV2,Ed TV7_ok MV2_ok⟩
theorem vc125 {X} {Q : QT} (hX : PX X) (a1 : Bool) (a2:BitVec 16) (a3 : Bool) (a4:BitVec 8) (a5 : Bool) (kr : List AC) (kn:Nat) (a6 : Bool) (a7 a8:BitVec 32) (a9 : Bool) (b1 b2 c0 c1 c2 c3 c4 c5 c6 c7 c8 c9 d0 d1:BitVec 8) (h : (fun D0 : Op=>IsO [Bb a1,Va a2,Bb a3,U8 a4,Bb a5,XS kr 0 kn,Bb a6,Fa a7,Fa a8,Bb a9,U8 b1,U8 b2,U8 c0,U8 c1,U8 c2,U8 c3,U8 c4,U8 c5,U8 c6,U8 c7,U8 c8,U8 c9,U8 d0,U8 d1]/\(mayO D0=true->Flat [Bb a1,Va a2,Bb a3,U8 a4,Bb a5,XS kr 0 kn,Bb a6,Fa a7,Fa a8,Bb a9,U8 b1,U8 b2,U8 c0,U8 c1,U8 c2,U8 c3,U8 c4,U8 c5,U8 c6,U8 c7,U8 c8,U8 c9,U8 d0,U8 d1]/\KR X 125 0 Q (Ub Try.f125 3) (mkS 95 [(1,O1 (PT 0 0)),(4,O1 NS)]) [some [Bb a1,Va a2,Bb a3,U8 a4,Bb a5,XS kr 0 kn,Bb a6,Fa a7,Fa a8,Bb a9,U8 b1,U8 b2,U8 c0,U8 c1,U8 c2,U8 c3,U8 c4,U8 c5,U8 c6,U8 c7,U8 c8,U8 c9,U8 d0,U8 d1]])/\(mayO D0=false->Q (TU [O1 NS,O1 (I64 (1:Int))]) [])) (oOf (nrL [Bb a1,Va a2,Bb a3,U8 a4,Bb a5,XS kr 0 kn,Bb a6,Fa a7,Fa a8,Bb a9,U8 b1,U8 b2,U8 c0,U8 c1,U8 c2,U8 c3,U8 c4,U8 c5,U8 c6,U8 c7,U8 c8,U8 c9,U8 d0,U8 d1]))) : Ia X 125 0 Q ([.code (Na Try.f125)]) (slots [.agg [.b a1,.u16 a2,.b a3,.u8 a4,.b a5,.xs kr 0 kn,.b a6,.u32 a7,.u32 a8,.b a9,.u8 b1,.u8 b2,.u8 c0,.u8 c1,.u8 c2,.u8 c3,.u8 c4,.u8 c5,.u8 c6,.u8 c7,.u8 c8,.u8 c9,.u8 d0,.u8 d1]] Try.f125.ntmps) [] :=
 wR hX WVB0 ok125 [9,12,22,29,34,50,62,76] [(5,1),(11,1),(100003,0),(100005,0),(100007,0),(100009,0),(100010,0),(100011,0),(200005,0),(200011,0)] [true] [(4,[1,4],[true]),(6,[1,4],[true]),(8,[1,4],[true]),(10,[1,4],[true]),(0,[1,4,34],[true]),(12,[1,4],[true]),(16,[1,4,59,60,61],[true])] h (by kernel_rfl)
theorem vc125a {X} {Q : QT} (hX : PX X) (a1 : Bool) (a2:BitVec 16) (a3 : Bool) (a4:BitVec 8) (a5 : Bool) (kr : List AC) (kn:Nat) (a6 : Bool) (a7 a8:BitVec 32) (a9 : Bool) (b1 b2 c0 c1 c2 c3 c4 c5 c6 c7 c8 c9 d0 d1:BitVec 8) (w : List AC) (n:Nat) (h : (fun D3 : List AC=>(fun D2 : List AC=>(fun D1 : List (BitVec 64)=>(fun D0 : List AC=>(fun L0 : Prop=>Bb a1=Bb a1/\(a1=true->Va a2=Va a2/\((L0)/\(L0)/\L0)/\((L0)/\L0)/\L0)/\(a1=false->Bb a3=Bb a3/\(a3=true->U8 a4=U8 a4/\3<=3/\((n+3)*1<=140737488355328/\n+3<=4611686018427387904)/\List.length w=n*1/\Flat D2/\KR X 125 0 Q (Ub Try.f125 7) (mkS 95 [(1,O1 (AC.xp [Bb a1,Va a2,Bb a3,U8 a4,Bb a5,XS kr 0 kn,Bb a6,Fa a7,Fa a8,Bb a9,U8 b1,U8 b2,U8 c0,U8 c1,U8 c2,U8 c3,U8 c4,U8 c5,U8 c6,U8 c7,U8 c8,U8 c9,U8 d0,U8 d1] 0)),(4,O1 (GS 0 (n+3) 1))]) [some D2])/\(a3=false->Bb a5=Bb a5/\(a5=true->2<=2/\((n+2)*1<=140737488355328/\n+2<=4611686018427387904)/\List.length w=n*1/\Flat D3/\KR X 125 0 Q (Ub Try.f125 9) (mkS 95 [(1,O1 (AC.xp [Bb a1,Va a2,Bb a3,U8 a4,Bb a5,XS kr 0 kn,Bb a6,Fa a7,Fa a8,Bb a9,U8 b1,U8 b2,U8 c0,U8 c1,U8 c2,U8 c3,U8 c4,U8 c5,U8 c6,U8 c7,U8 c8,U8 c9,U8 d0,U8 d1] 0)),(4,O1 (GS 0 (n+2) 1))]) [some D3])/\(a5=false->Bb a6=Bb a6/\(a6=true->Flat w/\KR X 125 0 Q (Ub Try.f125 10) (mkS 95 [(1,O1 (AC.xp [Bb a1,Va a2,Bb a3,U8 a4,Bb a5,XS kr 0 kn,Bb a6,Fa a7,Fa a8,Bb a9,U8 b1,U8 b2,U8 c0,U8 c1,U8 c2,U8 c3,U8 c4,U8 c5,U8 c6,U8 c7,U8 c8,U8 c9,U8 d0,U8 d1] 0)),(4,O1 (GS 0 n 1)),(34,O1 (Bb true))]) [some w])/\(a6=false->Flat w/\KR X 125 0 Q (Ub Try.f125 10) (mkS 95 [(1,O1 (AC.xp [Bb a1,Va a2,Bb a3,U8 a4,Bb a5,XS kr 0 kn,Bb a6,Fa a7,Fa a8,Bb a9,U8 b1,U8 b2,U8 c0,U8 c1,U8 c2,U8 c3,U8 c4,U8 c5,U8 c6,U8 c7,U8 c8,U8 c9,U8 d0,U8 d1] 0)),(4,O1 (GS 0 n 1)),(34,O1 (Bb false))]) [some w]))))) (2<=2/\((n+2)*1<=140737488355328/\n+2<=4611686018427387904)/\List.length w=n*1/\0+(n+2)*1<=List.length D0/\Flat (take ((n+2)*1) (drop 0 D0))/\1<=1/\Flat (take 1 (drop 0 [Nc (BitVec.setWidth 64 a2)]))/\(Oa (take ((n+2)*1) (drop 0 D0))/\List.length (take ((n+2)*1) (drop 0 D0))=n+2/\n+2<=100000000/\take 1 (drop 0 [Nc (BitVec.setWidth 64 a2)])=List.map Nc D1/\1=1/\1<=1000000)/\Qb (hide (List.map U8 (ptB (List.map Ea (take ((n+2)*1) (drop 0 D0))) (2:Int) D1)))/\Flat (hide (List.map U8 (ptB (List.map Ea (take ((n+2)*1) (drop 0 D0))) (2:Int) D1)))/\KR X 125 0 Q (Ub Try.f125 5) (mkS 95 [(1,O1 (AC.xp [Bb a1,Va a2,Bb a3,U8 a4,Bb a5,XS kr 0 kn,Bb a6,Fa a7,Fa a8,Bb a9,U8 b1,U8 b2,U8 c0,U8 c1,U8 c2,U8 c3,U8 c4,U8 c5,U8 c6,U8 c7,U8 c8,U8 c9,U8 d0,U8 d1] 0)),(4,O1 (GS 0 (n+2+2) 1))]) [some (hide (List.map U8 (ptB (List.map Ea (take ((n+2)*1) (drop 0 D0))) (2:Int) D1)))])) (w++take 2 (drop 0 [Zc (Value.int IntKind.u8 2),Zc (Value.int IntKind.u8 4)]))) (asN (take 1 (drop 0 [Nc (BitVec.setWidth 64 a2)])))) (w++take 3 (drop 0 [Zc (Value.int IntKind.u8 3),Zc (Value.int IntKind.u8 3),U8 a4]))) (w++take 2 (drop 0 [Zc (Value.int IntKind.u8 4),Zc (Value.int IntKind.u8 2)]))) : Ia X 125 0 Q (Ub Try.f125 3) (mkS 95 [(1,.one (.xp [.b a1,.u16 a2,.b a3,.u8 a4,.b a5,.xs kr 0 kn,.b a6,.u32 a7,.u32 a8,.b a9,.u8 b1,.u8 b2,.u8 c0,.u8 c1,.u8 c2,.u8 c3,.u8 c4,.u8 c5,.u8 c6,.u8 c7,.u8 c8,.u8 c9,.u8 d0,.u8 d1] 0)),(4,.one (.gs 0 n 1))]) [some w] :=
 wR hX WVB0 ok125 [9,12,22,29,34,50,62,76] [(5,1),(11,1),(100003,0),(100005,0),(100007,0),(100009,0),(100010,0),(100011,0),(200005,0),(200011,0)] [true] [(4,[1,4],[true]),(6,[1,4],[true]),(8,[1,4],[true]),(10,[1,4],[true]),(0,[1,4,34],[true]),(12,[1,4],[true]),(16,[1,4,59,60,61],[true])] h (by kernel_rfl)
theorem vc125b {X} {Q : QT} (hX : PX X) (a1 : Bool) (a2:BitVec 16) (a3 : Bool) (a4:BitVec 8) (a5 : Bool) (kr : List AC) (kn:Nat) (a6 : Bool) (a7 a8:BitVec 32) (a9 : Bool) (b1 b2 c0 c1 c2 c3 c4 c5 c6 c7 c8 c9 d0 d1:BitVec 8) (w : List AC) (n:Nat) (h : (fun D1 : List AC=>(fun D0 : List AC=>Bb a3=Bb a3/\(a3=true->U8 a4=U8 a4/\3<=3/\((n+3)*1<=140737488355328/\n+3<=4611686018427387904)/\List.length w=n*1/\Flat D0/\KR X 125 0 Q (Ub Try.f125 7) (mkS 95 [(1,O1 (AC.xp [Bb a1,Va a2,Bb a3,U8 a4,Bb a5,XS kr 0 kn,Bb a6,Fa a7,Fa a8,Bb a9,U8 b1,U8 b2,U8 c0,U8 c1,U8 c2,U8 c3,U8 c4,U8 c5,U8 c6,U8 c7,U8 c8,U8 c9,U8 d0,U8 d1] 0)),(4,O1 (GS 0 (n+3) 1))]) [some D0])/\(a3=false->Bb a5=Bb a5/\(a5=true->2<=2/\((n+2)*1<=140737488355328/\n+2<=4611686018427387904)/\List.length w=n*1/\Flat D1/\KR X 125 0 Q (Ub Try.f125 9) (mkS 95 [(1,O1 (AC.xp [Bb a1,Va a2,Bb a3,U8 a4,Bb a5,XS kr 0 kn,Bb a6,Fa a7,Fa a8,Bb a9,U8 b1,U8 b2,U8 c0,U8 c1,U8 c2,U8 c3,U8 c4,U8 c5,U8 c6,U8 c7,U8 c8,U8 c9,U8 d0,U8 d1] 0)),(4,O1 (GS 0 (n+2) 1))]) [some D1])/\(a5=false->Bb a6=Bb a6/\(a6=true->Flat w/\KR X 125 0 Q (Ub Try.f125 10) (mkS 95 [(1,O1 (AC.xp [Bb a1,Va a2,Bb a3,U8 a4,Bb a5,XS kr 0 kn,Bb a6,Fa a7,Fa a8,Bb a9,U8 b1,U8 b2,U8 c0,U8 c1,U8 c2,U8 c3,U8 c4,U8 c5,U8 c6,U8 c7,U8 c8,U8 c9,U8 d0,U8 d1] 0)),(4,O1 (GS 0 n 1)),(34,O1 (Bb true))]) [some w])/\(a6=false->Flat w/\KR X 125 0 Q (Ub Try.f125 10) (mkS 95 [(1,O1 (AC.xp [Bb a1,Va a2,Bb a3,U8 a4,Bb a5,XS kr 0 kn,Bb a6,Fa a7,Fa a8,Bb a9,U8 b1,U8 b2,U8 c0,U8 c1,U8 c2,U8 c3,U8 c4,U8 c5,U8 c6,U8 c7,U8 c8,U8 c9,U8 d0,U8 d1] 0)),(4,O1 (GS 0 n 1)),(34,O1 (Bb false))]) [some w])))) (w++take 3 (drop 0 [Zc (Value.int IntKind.u8 3),Zc (Value.int IntKind.u8 3),U8 a4]))) (w++take 2 (drop 0 [Zc (Value.int IntKind.u8 4),Zc (Value.int IntKind.u8 2)]))) : Ia X 125 0 Q (Ub Try.f125 5) (mkS 95 [(1,.one (.xp [.b a1,.u16 a2,.b a3,.u8 a4,.b a5,.xs kr 0 kn,.b a6,.u32 a7,.u32 a8,.b a9,.u8 b1,.u8 b2,.u8 c0,.u8 c1,.u8 c2,.u8 c3,.u8 c4,.u8 c5,.u8 c6,.u8 c7,.u8 c8,.u8 c9,.u8 d0,.u8 d1] 0)),(4,.one (.gs 0 n 1))]) [some w] :=
 wR hX WVB0 ok125 [9,12,22,29,34,50,62,76] [(5,1),(11,1),(100003,0),(100005,0),(100007,0),(100009,0),(100010,0),(100011,0),(200005,0),(200011,0)] [true] [(4,[1,4],[true]),(6,[1,4],[true]),(8,[1,4],[true]),(10,[1,4],[true]),(0,[1,4,34],[true]),(12,[1,4],[true]),(16,[1,4,59,60,61],[true])] h (by kernel_rfl)
theorem vc125c {X} {Q : QT} (hX : PX X) (a1 : Bool) (a2:BitVec 16) (a3 : Bool) (a4:BitVec 8) (a5 : Bool) (kr : List AC) (kn:Nat) (a6 : Bool) (a7 a8:BitVec 32) (a9 : Bool) (b1 b2 c0 c1 c2 c3 c4 c5 c6 c7 c8 c9 d0 d1:BitVec 8) (w : List AC) (n:Nat) (h : (fun D0 : List AC=>Bb a5=Bb a5/\(a5=true->2<=2/\((n+2)*1<=140737488355328/\n+2<=4611686018427387904)/\List.length w=n*1/\Flat D0/\KR X 125 0 Q (Ub Try.f125 9) (mkS 95 [(1,O1 (AC.xp [Bb a1,Va a2,Bb a3,U8 a4,Bb a5,XS kr 0 kn,Bb a6,Fa a7,Fa a8,Bb a9,U8 b1,U8 b2,U8 c0,U8 c1,U8 c2,U8 c3,U8 c4,U8 c5,U8 c6,U8 c7,U8 c8,U8 c9,U8 d0,U8 d1] 0)),(4,O1 (GS 0 (n+2) 1))]) [some D0])/\(a5=false->Bb a6=Bb a6/\(a6=true->Flat w/\KR X 125 0 Q (Ub Try.f125 10) (mkS 95 [(1,O1 (AC.xp [Bb a1,Va a2,Bb a3,U8 a4,Bb a5,XS kr 0 kn,Bb a6,Fa a7,Fa a8,Bb a9,U8 b1,U8 b2,U8 c0,U8 c1,U8 c2,U8 c3,U8 c4,U8 c5,U8 c6,U8 c7,U8 c8,U8 c9,U8 d0,U8 d1] 0)),(4,O1 (GS 0 n 1)),(34,O1 (Bb true))]) [some w])/\(a6=false->Flat w/\KR X 125 0 Q (Ub Try.f125 10) (mkS 95 [(1,O1 (AC.xp [Bb a1,Va a2,Bb a3,U8 a4,Bb a5,XS kr 0 kn,Bb a6,Fa a7,Fa a8,Bb a9,U8 b1,U8 b2,U8 c0,U8 c1,U8 c2,U8 c3,U8 c4,U8 c5,U8 c6,U8 c7,U8 c8,U8 c9,U8 d0,U8 d1] 0)),(4,O1 (GS 0 n 1)),(34,O1 (Bb false))]) [some w]))) (w++take 2 (drop 0 [Zc (Value.int IntKind.u8 4),Zc (Value.int IntKind.u8 2)]))) : Ia X 125 0 Q (Ub Try.f125 7) (mkS 95 [(1,.one (.xp [.b a1,.u16 a2,.b a3,.u8 a4,.b a5,.xs kr 0 kn,.b a6,.u32 a7,.u32 a8,.b a9,.u8 b1,.u8 b2,.u8 c0,.u8 c1,.u8 c2,.u8 c3,.u8 c4,.u8 c5,.u8 c6,.u8 c7,.u8 c8,.u8 c9,.u8 d0,.u8 d1] 0)),(4,.one (.gs 0 n 1))]) [some w] :=
 wR hX WVB0 ok125 [9,12,22,29,34,50,62,76] [(5,1),(11,1),(100003,0),(100005,0),(100007,0),(100009,0),(100010,0),(100011,0),(200005,0),(200011,0)] [true] [(4,[1,4],[true]),(6,[1,4],[true]),(8,[1,4],[true]),(10,[1,4],[true]),(0,[1,4,34],[true]),(12,[1,4],[true]),(16,[1,4,59,60,61],[true])] h (by kernel_rfl)
theorem vc125d {X} {Q : QT} (hX : PX X) (a1 : Bool) (a2:BitVec 16) (a3 : Bool) (a4:BitVec 8) (a5 : Bool) (kr : List AC) (kn:Nat) (a6 : Bool) (a7 a8:BitVec 32) (a9 : Bool) (b1 b2 c0 c1 c2 c3 c4 c5 c6 c7 c8 c9 d0 d1:BitVec 8) (w : List AC) (n:Nat) (h : Bb a6=Bb a6/\(a6=true->Flat w/\KR X 125 0 Q (Ub Try.f125 10) (mkS 95 [(1,O1 (AC.xp [Bb a1,Va a2,Bb a3,U8 a4,Bb a5,XS kr 0 kn,Bb a6,Fa a7,Fa a8,Bb a9,U8 b1,U8 b2,U8 c0,U8 c1,U8 c2,U8 c3,U8 c4,U8 c5,U8 c6,U8 c7,U8 c8,U8 c9,U8 d0,U8 d1] 0)),(4,O1 (GS 0 n 1)),(34,O1 (Bb true))]) [some w])/\(a6=false->Flat w/\KR X 125 0 Q (Ub Try.f125 10) (mkS 95 [(1,O1 (AC.xp [Bb a1,Va a2,Bb a3,U8 a4,Bb a5,XS kr 0 kn,Bb a6,Fa a7,Fa a8,Bb a9,U8 b1,U8 b2,U8 c0,U8 c1,U8 c2,U8 c3,U8 c4,U8 c5,U8 c6,U8 c7,U8 c8,U8 c9,U8 d0,U8 d1] 0)),(4,O1 (GS 0 n 1)),(34,O1 (Bb false))]) [some w])) : Ia X 125 0 Q (Ub Try.f125 9) (mkS 95 [(1,.one (.xp [.b a1,.u16 a2,.b a3,.u8 a4,.b a5,.xs kr 0 kn,.b a6,.u32 a7,.u32 a8,.b a9,.u8 b1,.u8 b2,.u8 c0,.u8 c1,.u8 c2,.u8 c3,.u8 c4,.u8 c5,.u8 c6,.u8 c7,.u8 c8,.u8 c9,.u8 d0,.u8 d1] 0)),(4,.one (.gs 0 n 1))]) [some w] :=
 wR hX WVB0 ok125 [9,12,22,29,34,50,62,76] [(5,1),(11,1),(100003,0),(100005,0),(100007,0),(100009,0),(100010,0),(100011,0),(200005,0),(200011,0)] [true] [(4,[1,4],[true]),(6,[1,4],[true]),(8,[1,4],[true]),(10,[1,4],[true]),(0,[1,4,34],[true]),(12,[1,4],[true]),(16,[1,4,59,60,61],[true])] h (by kernel_rfl)
theorem vc125t {X} {Q : QT} (hX : PX X) (a1 : Bool) (a2:BitVec 16) (a3 : Bool) (a4:BitVec 8) (a5 : Bool) (kr : List AC) (kn:Nat) (a6 : Bool) (a7 a8:BitVec 32) (a9 : Bool) (b1 b2 c0 c1 c2 c3 c4 c5 c6 c7 c8 c9 d0 d1:BitVec 8) (w : List AC) (n:Nat) (h : (fun D1 : List (BitVec 64)=>(fun D0 : List AC=>(fun L0 : Prop=>(fun L1 : Prop=>Fa a7=Fa a7/\Fa a8=Fa a8/\((2<=2/\((n+2)*1<=140737488355328/\n+2<=4611686018427387904)/\List.length w=n*1/\(L0)/\L0)/\((L1)/\(L1)/\L1)/\(L1)/\(L1)/\L1)/\(((L1)/\(L1)/\L1)/\((L1)/\L1)/\L1)/\((L1)/\(L1)/\L1)/\((L1)/\L1)/\L1) (2<=2/\((n+2)*1<=140737488355328/\n+2<=4611686018427387904)/\List.length w=n*1/\L0)) (0+(n+2)*1<=List.length D0/\Flat (take ((n+2)*1) (drop 0 D0))/\2<=2/\Flat (take 2 (drop 0 [Nc (BitVec.setWidth 64 a7),Nc (BitVec.setWidth 64 a8)]))/\(Oa (take ((n+2)*1) (drop 0 D0))/\List.length (take ((n+2)*1) (drop 0 D0))=n+2/\n+2<=100000000/\take 2 (drop 0 [Nc (BitVec.setWidth 64 a7),Nc (BitVec.setWidth 64 a8)])=List.map Nc D1/\2=2/\2<=1000000)/\Qb (hide (List.map U8 (ptB (List.map Ea (take ((n+2)*1) (drop 0 D0))) (4:Int) D1)))/\Flat (hide (List.map U8 (ptB (List.map Ea (take ((n+2)*1) (drop 0 D0))) (4:Int) D1)))/\KR X 125 0 Q (Ub Try.f125 11) (mkS 95 [(1,O1 (AC.xp [Bb a1,Va a2,Bb a3,U8 a4,Bb a5,XS kr 0 kn,Bb a6,Fa a7,Fa a8,Bb a9,U8 b1,U8 b2,U8 c0,U8 c1,U8 c2,U8 c3,U8 c4,U8 c5,U8 c6,U8 c7,U8 c8,U8 c9,U8 d0,U8 d1] 0)),(4,O1 (GS 0 (n+2+8) 1))]) [some (hide (List.map U8 (ptB (List.map Ea (take ((n+2)*1) (drop 0 D0))) (4:Int) D1)))])) (w++take 2 (drop 0 [Zc (Value.int IntKind.u8 8),Zc (Value.int IntKind.u8 10)]))) (asN (take 2 (drop 0 [Nc (BitVec.setWidth 64 a7),Nc (BitVec.setWidth 64 a8)])))) : Ia X 125 0 Q (Ub Try.f125 10) (mkS 95 [(1,.one (.xp [.b a1,.u16 a2,.b a3,.u8 a4,.b a5,.xs kr 0 kn,.b a6,.u32 a7,.u32 a8,.b a9,.u8 b1,.u8 b2,.u8 c0,.u8 c1,.u8 c2,.u8 c3,.u8 c4,.u8 c5,.u8 c6,.u8 c7,.u8 c8,.u8 c9,.u8 d0,.u8 d1] 0)),(4,.one (.gs 0 n 1)),(34,.one (.b true))]) [some w] :=
 wR hX WVB0 ok125 [9,12,22,29,34,50,62,76] [(5,1),(11,1),(100003,0),(100005,0),(100007,0),(100009,0),(100010,0),(100011,0),(200005,0),(200011,0)] [true] [(4,[1,4],[true]),(6,[1,4],[true]),(8,[1,4],[true]),(10,[1,4],[true]),(0,[1,4,34],[true]),(12,[1,4],[true]),(16,[1,4,59,60,61],[true])] h (by kernel_rfl)
theorem vc125u {X} {Q : QT} (hX : PX X) (a1 : Bool) (a2:BitVec 16) (a3 : Bool) (a4:BitVec 8) (a5 : Bool) (kr : List AC) (kn:Nat) (a6 : Bool) (a7 a8:BitVec 32) (a9 : Bool) (b1 b2 c0 c1 c2 c3 c4 c5 c6 c7 c8 c9 d0 d1:BitVec 8) (w : List AC) (n:Nat) (h : (fun D0 : Int=>XS kr 0 kn=XS (Td (XS kr 0 kn)) (xsOff (XS kr 0 kn)) (xsLen (XS kr 0 kn))/\(decide ((0:Int)<D0)=true->La ((8:Int)*D0)/\La ((2:Int)+(8:Int)*D0)/\2<=2/\((n+2)*1<=140737488355328/\n+2<=4611686018427387904)/\List.length w=n*1/\XS kr 0 kn=XS (Td (XS kr 0 kn)) (xsOff (XS kr 0 kn)) (xsLen (XS kr 0 kn))/\Flat (w++take 2 (drop 0 [Zc (Value.int IntKind.u8 5),U8 (BitVec.ofInt 8 ((2:Int)+(8:Int)*D0))]))/\KR X 125 0 Q (Fb Try.f125 0) (mkS 95 [(1,O1 (AC.xp [Bb a1,Va a2,Bb a3,U8 a4,Bb a5,XS kr 0 kn,Bb a6,Fa a7,Fa a8,Bb a9,U8 b1,U8 b2,U8 c0,U8 c1,U8 c2,U8 c3,U8 c4,U8 c5,U8 c6,U8 c7,U8 c8,U8 c9,U8 d0,U8 d1] 0)),(4,O1 (GS 0 (n+2) 1)),(59,O1 (XS (Td (XS kr 0 kn)) 0 (xsLen (XS kr 0 kn)))),(60,O1 (I64 D0)),(61,O1 (I64 (0:Int)))]) [some (w++take 2 (drop 0 [Zc (Value.int IntKind.u8 5),U8 (BitVec.ofInt 8 ((2:Int)+(8:Int)*D0))]))])/\(decide ((0:Int)<D0)=false->XS kr 0 kn=XS (Td (XS kr 0 kn)) (xsOff (XS kr 0 kn)) (xsLen (XS kr 0 kn))/\Flat w/\KR X 125 0 Q (Fb Try.f125 0) (mkS 95 [(1,O1 (AC.xp [Bb a1,Va a2,Bb a3,U8 a4,Bb a5,XS kr 0 kn,Bb a6,Fa a7,Fa a8,Bb a9,U8 b1,U8 b2,U8 c0,U8 c1,U8 c2,U8 c3,U8 c4,U8 c5,U8 c6,U8 c7,U8 c8,U8 c9,U8 d0,U8 d1] 0)),(4,O1 (GS 0 n 1)),(59,O1 (XS (Td (XS kr 0 kn)) 0 (xsLen (XS kr 0 kn)))),(60,O1 (I64 D0)),(61,O1 (I64 (0:Int)))]) [some w])) (↑(xsLen (XS kr 0 kn)):Int)) : Ia X 125 0 Q (Ub Try.f125 10) (mkS 95 [(1,.one (.xp [.b a1,.u16 a2,.b a3,.u8 a4,.b a5,.xs kr 0 kn,.b a6,.u32 a7,.u32 a8,.b a9,.u8 b1,.u8 b2,.u8 c0,.u8 c1,.u8 c2,.u8 c3,.u8 c4,.u8 c5,.u8 c6,.u8 c7,.u8 c8,.u8 c9,.u8 d0,.u8 d1] 0)),(4,.one (.gs 0 n 1)),(34,.one (.b false))]) [some w] :=
 wR hX WVB0 ok125 [9,12,22,29,34,50,62,76] [(5,1),(11,1),(100003,0),(100005,0),(100007,0),(100009,0),(100010,0),(100011,0),(200005,0),(200011,0)] [true] [(4,[1,4],[true]),(6,[1,4],[true]),(8,[1,4],[true]),(10,[1,4],[true]),(0,[1,4,34],[true]),(12,[1,4],[true]),(16,[1,4,59,60,61],[true])] h (by kernel_rfl)
theorem vc125f {X} {Q : QT} (hX : PX X) (a1 : Bool) (a2:BitVec 16) (a3 : Bool) (a4:BitVec 8) (a5 : Bool) (kr : List AC) (kn:Nat) (a6 : Bool) (a7 a8:BitVec 32) (a9 : Bool) (b1 b2 c0 c1 c2 c3 c4 c5 c6 c7 c8 c9 d0 d1:BitVec 8) (w : List AC) (n:Nat) (h : (fun D0 : Int=>XS kr 0 kn=XS (Td (XS kr 0 kn)) (xsOff (XS kr 0 kn)) (xsLen (XS kr 0 kn))/\(decide ((0:Int)<D0)=true->La ((8:Int)*D0)/\La ((2:Int)+(8:Int)*D0)/\2<=2/\((n+2)*1<=140737488355328/\n+2<=4611686018427387904)/\List.length w=n*1/\XS kr 0 kn=XS (Td (XS kr 0 kn)) (xsOff (XS kr 0 kn)) (xsLen (XS kr 0 kn))/\Flat (w++take 2 (drop 0 [Zc (Value.int IntKind.u8 5),U8 (BitVec.ofInt 8 ((2:Int)+(8:Int)*D0))]))/\KR X 125 0 Q (Fb Try.f125 0) (mkS 95 [(1,O1 (AC.xp [Bb a1,Va a2,Bb a3,U8 a4,Bb a5,XS kr 0 kn,Bb a6,Fa a7,Fa a8,Bb a9,U8 b1,U8 b2,U8 c0,U8 c1,U8 c2,U8 c3,U8 c4,U8 c5,U8 c6,U8 c7,U8 c8,U8 c9,U8 d0,U8 d1] 0)),(4,O1 (GS 0 (n+2) 1)),(59,O1 (XS (Td (XS kr 0 kn)) 0 (xsLen (XS kr 0 kn)))),(60,O1 (I64 D0)),(61,O1 (I64 (0:Int)))]) [some (w++take 2 (drop 0 [Zc (Value.int IntKind.u8 5),U8 (BitVec.ofInt 8 ((2:Int)+(8:Int)*D0))]))])/\(decide ((0:Int)<D0)=false->XS kr 0 kn=XS (Td (XS kr 0 kn)) (xsOff (XS kr 0 kn)) (xsLen (XS kr 0 kn))/\Flat w/\KR X 125 0 Q (Fb Try.f125 0) (mkS 95 [(1,O1 (AC.xp [Bb a1,Va a2,Bb a3,U8 a4,Bb a5,XS kr 0 kn,Bb a6,Fa a7,Fa a8,Bb a9,U8 b1,U8 b2,U8 c0,U8 c1,U8 c2,U8 c3,U8 c4,U8 c5,U8 c6,U8 c7,U8 c8,U8 c9,U8 d0,U8 d1] 0)),(4,O1 (GS 0 n 1)),(59,O1 (XS (Td (XS kr 0 kn)) 0 (xsLen (XS kr 0 kn)))),(60,O1 (I64 D0)),(61,O1 (I64 (0:Int)))]) [some w])) (↑(xsLen (XS kr 0 kn)):Int)) : Ia X 125 0 Q (Ub Try.f125 11) (mkS 95 [(1,.one (.xp [.b a1,.u16 a2,.b a3,.u8 a4,.b a5,.xs kr 0 kn,.b a6,.u32 a7,.u32 a8,.b a9,.u8 b1,.u8 b2,.u8 c0,.u8 c1,.u8 c2,.u8 c3,.u8 c4,.u8 c5,.u8 c6,.u8 c7,.u8 c8,.u8 c9,.u8 d0,.u8 d1] 0)),(4,.one (.gs 0 n 1))]) [some w] :=
 wR hX WVB0 ok125 [9,12,22,29,34,50,62,76] [(5,1),(11,1),(100003,0),(100005,0),(100007,0),(100009,0),(100010,0),(100011,0),(200005,0),(200011,0)] [true] [(4,[1,4],[true]),(6,[1,4],[true]),(8,[1,4],[true]),(10,[1,4],[true]),(0,[1,4,34],[true]),(12,[1,4],[true]),(16,[1,4,59,60,61],[true])] h (by kernel_rfl)
theorem vc125l {X} {Q : QT} (hX : PX X) (a1 : Bool) (a2:BitVec 16) (a3 : Bool) (a4:BitVec 8) (a5 : Bool) (kr : List AC) (kn:Nat) (a6 : Bool) (a7 a8:BitVec 32) (a9 : Bool) (b1 b2 c0 c1 c2 c3 c4 c5 c6 c7 c8 c9 d0 d1:BitVec 8) (w : List AC) (n:Nat) (i:Int) (h : (fun D5 : Int=>(fun D4 : List (BitVec 8)=>(fun D3 : BitVec 32=>(fun D2 : BitVec 32=>(fun D1 : List (BitVec 64)=>(fun D0 : Op=>(fun L0 : Prop=>(decide (i<(↑kn:Int))=true->((0:Int)<=i/\i<(↑kn:Int))/\gt AY kr (0+Int.toNat i*2)=Fa D3/\gt AY kr (0+Int.toNat i*2+1)=Fa D2/\Fa D3=Fa D3/\Fa D2=Fa D2/\0+n*1<=List.length w/\Flat (take (n*1) (drop 0 w))/\2<=2/\Flat (take 2 (drop 0 [Nc (BitVec.setWidth 64 D3),Nc (BitVec.setWidth 64 D2)]))/\(Oa (take (n*1) (drop 0 w))/\List.length (take (n*1) (drop 0 w))=n/\n<=100000000/\take 2 (drop 0 [Nc (BitVec.setWidth 64 D3),Nc (BitVec.setWidth 64 D2)])=List.map Nc D1/\2=2/\2<=1000000)/\Qb (hide (List.map U8 (ptB D4 (4:Int) D1)))/\La (i+(1:Int))/\Flat (hide (List.map U8 (ptB D4 (4:Int) D1)))/\KR X 125 0 Q (Fb Try.f125 0) (mkS 95 [(1,O1 (AC.xp [Bb a1,Va a2,Bb a3,U8 a4,Bb a5,XS kr 0 kn,Bb a6,Fa a7,Fa a8,Bb a9,U8 b1,U8 b2,U8 c0,U8 c1,U8 c2,U8 c3,U8 c4,U8 c5,U8 c6,U8 c7,U8 c8,U8 c9,U8 d0,U8 d1] 0)),(4,O1 (GS 0 (n+8) 1)),(59,O1 (XS kr 0 kn)),(60,O1 (I64 (↑kn:Int))),(61,O1 (I64 (i+(1:Int))))]) [some (hide (List.map U8 (ptB D4 (4:Int) D1)))])/\(decide (i<(↑kn:Int))=false->Bb a9=Bb a9/\(a9=true->U8 b1=U8 b1/\U8 b2=U8 b2/\4<=4/\((n+4)*1<=140737488355328/\n+4<=4611686018427387904)/\List.length w=n*1/\((0:Int)<=(↑0:Int)/\(↑0:Int)<=(↑12:Int)/\(↑12:Int)<=(↑12:Int))/\24<=24/\((n+4+12)*1<=140737488355328/\n+4+12<=4611686018427387904)/\List.length (w++take 4 (drop 0 [Zc (Value.int IntKind.u8 29),Zc (Value.int IntKind.u8 16),U8 b1,U8 b2]))=(n+4)*1/\24<=24/\(L0)/\La ((↑(sizN D0):Int) - D5)/\(0:Int)<=(↑(sizN D0):Int) - D5/\((n+4+12+Int.toNat ((↑(sizN D0):Int) - D5))*1<=140737488355328/\n+4+12+Int.toNat ((↑(sizN D0):Int) - D5)<=4611686018427387904)/\List.length (w++take 4 (drop 0 [Zc (Value.int IntKind.u8 29),Zc (Value.int IntKind.u8 16),U8 b1,U8 b2])++take 12 (drop 12 [Bb a1,Va a2,Bb a3,U8 a4,Bb a5,XS kr 0 kn,Bb a6,Fa a7,Fa a8,Bb a9,U8 b1,U8 b2,U8 c0,U8 c1,U8 c2,U8 c3,U8 c4,U8 c5,U8 c6,U8 c7,U8 c8,U8 c9,U8 d0,U8 d1]))=(n+4+12)*1/\Flat (w++take 4 (drop 0 [Zc (Value.int IntKind.u8 29),Zc (Value.int IntKind.u8 16),U8 b1,U8 b2])++take 12 (drop 12 [Bb a1,Va a2,Bb a3,U8 a4,Bb a5,XS kr 0 kn,Bb a6,Fa a7,Fa a8,Bb a9,U8 b1,U8 b2,U8 c0,U8 c1,U8 c2,U8 c3,U8 c4,U8 c5,U8 c6,U8 c7,U8 c8,U8 c9,U8 d0,U8 d1])++zeros [U8 0] (Int.toNat ((↑(sizN D0):Int) - D5)))/\Q (TU [O1 (GS 0 (n+4+12+Int.toNat ((↑(sizN D0):Int) - D5)) 1),O1 (I64 (0:Int))]) [some (w++take 4 (drop 0 [Zc (Value.int IntKind.u8 29),Zc (Value.int IntKind.u8 16),U8 b1,U8 b2])++take 12 (drop 12 [Bb a1,Va a2,Bb a3,U8 a4,Bb a5,XS kr 0 kn,Bb a6,Fa a7,Fa a8,Bb a9,U8 b1,U8 b2,U8 c0,U8 c1,U8 c2,U8 c3,U8 c4,U8 c5,U8 c6,U8 c7,U8 c8,U8 c9,U8 d0,U8 d1])++zeros [U8 0] (Int.toNat ((↑(sizN D0):Int) - D5)))])/\(a9=false->24<=24/\(L0)/\La ((↑(sizN D0):Int) - (↑n:Int))/\(0:Int)<=(↑(sizN D0):Int) - (↑n:Int)/\((n+Int.toNat ((↑(sizN D0):Int) - (↑n:Int)))*1<=140737488355328/\n+Int.toNat ((↑(sizN D0):Int) - (↑n:Int))<=4611686018427387904)/\List.length w=n*1/\Flat (w++zeros [U8 0] (Int.toNat ((↑(sizN D0):Int) - (↑n:Int))))/\Q (TU [O1 (GS 0 (n+Int.toNat ((↑(sizN D0):Int) - (↑n:Int))) 1),O1 (I64 (0:Int))]) [some (w++zeros [U8 0] (Int.toNat ((↑(sizN D0):Int) - (↑n:Int))))]))) (IsO (take 24 (drop 0 [Bb a1,Va a2,Bb a3,U8 a4,Bb a5,XS kr 0 kn,Bb a6,Fa a7,Fa a8,Bb a9,U8 b1,U8 b2,U8 c0,U8 c1,U8 c2,U8 c3,U8 c4,U8 c5,U8 c6,U8 c7,U8 c8,U8 c9,U8 d0,U8 d1]))/\List.length (Op.sacks D0)<=1000000)) (oOf (nrL (take 24 (drop 0 [Bb a1,Va a2,Bb a3,U8 a4,Bb a5,XS kr 0 kn,Bb a6,Fa a7,Fa a8,Bb a9,U8 b1,U8 b2,U8 c0,U8 c1,U8 c2,U8 c3,U8 c4,U8 c5,U8 c6,U8 c7,U8 c8,U8 c9,U8 d0,U8 d1]))))) (asN (take 2 (drop 0 [Nc (BitVec.setWidth 64 D3),Nc (BitVec.setWidth 64 D2)])))) (Xb (gt AY kr (0+Int.toNat i*2+1)))) (Xb (gt AY kr (0+Int.toNat i*2)))) (List.map Ea (take (n*1) (drop 0 w)))) (↑(n+4+12):Int)) : Ia X 125 0 Q (Fb Try.f125 0) (mkS 95 [(1,.one (.xp [.b a1,.u16 a2,.b a3,.u8 a4,.b a5,.xs kr 0 kn,.b a6,.u32 a7,.u32 a8,.b a9,.u8 b1,.u8 b2,.u8 c0,.u8 c1,.u8 c2,.u8 c3,.u8 c4,.u8 c5,.u8 c6,.u8 c7,.u8 c8,.u8 c9,.u8 d0,.u8 d1] 0)),(4,.one (.gs 0 n 1)),(59,.one (.xs kr 0 kn)),(60,.one (.i64 kn)),(61,.one (.i64 i))]) [some w] :=
 wR hX WVB0 ok125 [9,12,22,29,34,50,62,76] [(5,1),(11,1),(100003,0),(100005,0),(100007,0),(100009,0),(100010,0),(100011,0),(200005,0),(200011,0)] [true] [(4,[1,4],[true]),(6,[1,4],[true]),(8,[1,4],[true]),(10,[1,4],[true]),(0,[1,4,34],[true]),(12,[1,4],[true]),(16,[1,4,59,60,61],[true])] h (by kernel_rfl)
theorem lay_app (w0 : List (BitVec 8)) (cs : List AC) (x : List (BitVec 8)) (k:Nat) (h : take k (drop 0 cs) = x.map U8) : w0.map U8 ++ take k (drop 0 cs) = (w0 ++ x).map U8 := by rw [h, List.map_append]
theorem tkn1 (l : List (BitVec 8)) (n:Nat) (h : l.length = n) : take (n * 1) (drop 0 (l.map U8)) = l.map U8 := tkL l n h
theorem pt2 (w : List (BitVec 8)) (x:BitVec 16) : ptB w 2 [x.setWidth 64] = w ++ b16 x := by
 unfold ptB putL b16
 rw [szN2, List.flatMap_cons, List.flatMap_nil, List.append_nil]
theorem pt44 (w : List (BitVec 8)) (x y:BitVec 32) : ptB w 4 [x.setWidth 64, y.setWidth 64] = w ++ (b32 x ++ b32 y) := by
 unfold ptB putL b32
 rw [szN4, List.flatMap_cons, List.flatMap_cons, List.flatMap_nil, List.append_nil]
theorem tk2u (u v:BitVec 64) : take 2 (drop 0 [Nc u, Nc v]) = [u, v].map Nc := rfl
theorem sak_at {l : List (BitVec 32 × BitVec 32)} {i : Nat} (h : i < l.length) : gt AY (sakC l) (0 + Int.toNat (i:Int) * 2) = .u32 (l[i]).1 ∧ gt AY (sakC l) (0 + Int.toNat (i:Int) * 2 + 1) = .u32 (l[i]).2 := by
 have g := fun j hj => gt_rows (fun x : BitVec 32 × BitVec 32 => [Fa x.1, Fa x.2]) 2 (fun _ => rfl) l i j h hj
 have e0 := g 0 (by omega)
 have e1 := g 1 (by omega)
 rw [Int.toNat_natCast, Nat.zero_add]
 exact ⟨e0, e1⟩
theorem zeros8 (n:Nat) : zeros [U8 0] n = (replicate n (0:BitVec 8)).map U8 := by
 rw [← Jd]; unfold zeros; simp
theorem s125 (o : Op) (hl : o.mac.length = 12) (hm : mayO o = true) : Spec Try.prog 125 [.agg (opC o)] [] (Are (.Ec [.one (.gs 0 (layO o).length 1), .one (.i64 0)]) [some ((layO o).map U8)]) := by
 have hI := isO_C hl
 have hO := oOf_C hl
 have hL := layO_len hl
 have hz : sizN o ≤ 40 ∧ o.sacks.length ≤ 4 := by
  unfold mayO at hm
  simp only [Bool.and_eq_true, decide_eq_true_eq] at hm
  exact ⟨hm.2, hm.1.2⟩
 have hraw : rawN o ≤ sizN o := by unfold sizN; omega
 have hlay : ∀ w : List (BitVec 8), w ++ replicate (sizN o - rawN o) 0 = layO o → w.length = rawN o := fun w h => by
  have := congrArg List.length h
  rw [List.length_append, List.length_replicate, hL] at this
  omega
 generalize hLL : layO o = L at *
 generalize hS : sizN o = S at *
 generalize hR : rawN o = R at *
 obtain ⟨a1, a2, a3, a4, a5, a6, a7, a8, a9, b1, b2, mc, sk⟩ := o
 obtain ⟨c0, c1, c2, c3, c4, c5, c6, c7, c8, c9, d0, d1, rfl⟩ := twelve hl
 unfold layO layA at hLL
 dsimp only at hLL hz
 rw [hS, hR] at hLL
 have hT : take 24 (drop 0 [.b a1, .u16 a2, .b a3, .u8 a4, .b a5, .xs (sakC sk) 0 sk.length, .b a6, .u32 a7, .u32 a8, .b a9, .u8 b1, .u8 b2, .u8 c0, .u8 c1, .u8 c2, .u8 c3, .u8 c4, .u8 c5, .u8 c6, .u8 c7, .u8 c8, .u8 c9, .u8 d0, .u8 d1]) = opC ⟨a1, a2, a3, a4, a5, a6, a7, a8, a9, b1, b2, [c0, c1, c2, c3, c4, c5, c6, c7, c8, c9, d0, d1], sk⟩ := rfl
 have hM : take 12 (drop 12 [.b a1, .u16 a2, .b a3, .u8 a4, .b a5, .xs (sakC sk) 0 sk.length, .b a6, .u32 a7, .u32 a8, .b a9, .u8 b1, .u8 b2, .u8 c0, .u8 c1, .u8 c2, .u8 c3, .u8 c4, .u8 c5, .u8 c6, .u8 c7, .u8 c8, .u8 c9, .u8 d0, .u8 d1]) = [c0, c1, c2, c3, c4, c5, c6, c7, c8, c9, d0, d1].map U8 := rfl
 have hF : Flat [.b a1, .u16 a2, .b a3, .u8 a4, .b a5, .xs (sakC sk) 0 sk.length, .b a6, .u32 a7, .u32 a8, .b a9, .u8 b1, .u8 b2, .u8 c0, .u8 c1, .u8 c2, .u8 c3, .u8 c4, .u8 c5, .u8 c6, .u8 c7, .u8 c8, .u8 c9, .u8 d0, .u8 d1] := Ib rfl
 generalize hr8 : replicate (S - R) (0:BitVec 8) = r8 at *
 generalize hmc : [c0, c1, c2, c3, c4, c5, c6, c7, c8, c9, d0, d1] = mc at *
 have hmcl : mc.length = 12 := hl
 have KL : ∀ Y : Ctx, Y.P = Try.prog → ∀ (d i:Nat) (w0 : List (BitVec 8)), i + d = sk.length → w0 ++ (sakL (sk.drop i) ++ (optL a9 ([29, 16, b1, b2] ++ mc) ++ r8)) = L →
   Ia Y 125 0 (Are (.Ec [.one (.gs 0 L.length 1), .one (.i64 0)]) [some (L.map U8)]) (Fb Try.f125 0) (mkS 95 [(1, .one (.xp [.b a1, .u16 a2, .b a3, .u8 a4, .b a5, .xs (sakC sk) 0 sk.length, .b a6, .u32 a7, .u32 a8, .b a9, .u8 b1, .u8 b2, .u8 c0, .u8 c1, .u8 c2, .u8 c3, .u8 c4, .u8 c5, .u8 c6, .u8 c7, .u8 c8, .u8 c9, .u8 d0, .u8 d1] 0)), (4, .one (.gs 0 w0.length 1)), (59, .one (.xs (sakC sk) 0 sk.length)), (60, .one (.i64 sk.length)), (61, .one (.i64 i))]) [some (w0.map U8)] := by
  intro Y hY d
  induction d with
  | zero =>
   intro i w0 hi hw
   have hi : i = sk.length := by omega
   rw [List.drop_eq_nil_of_le (by omega), show sakL [] = [] from rfl, List.nil_append] at hw
   refine vc125l hY _ _ _ _ _ _ _ _ _ _ _ _ _ _ _ _ _ _ _ _ _ _ _ _ _ _ _ _ ⟨fun h => absurd (of_decide_eq_true h) (by omega), fun _ => ⟨rfl, fun h => ?_, fun h => ?_⟩⟩
   ·have h : a9 = true := h
    rw [h, show optL true ([29, 16, b1, b2] ++ mc) = [29, 16, b1, b2] ++ mc from rfl] at hw
    have hw2 : (w0 ++ [29, 16, b1, b2] ++ mc) ++ r8 = L := by rw [← hw]; simp only [List.append_assoc]
    have hl2 := hlay _ hw2
    rw [List.length_append, List.length_append, hmcl] at hl2
    have hl2 : w0.length + 4 + 12 = R := hl2
    have hA : w0.map U8 ++ take 4 (drop 0 [Zc (Value.int IntKind.u8 29), Zc (Value.int IntKind.u8 16), .u8 b1, .u8 b2]) = (w0 ++ [29, 16, b1, b2]).map U8 := lay_app _ _ _ _ rfl
    have hl1 : (w0 ++ [29, 16, b1, b2]).length = w0.length + 4 := by rw [List.length_append]; rfl
    have hl3 : (w0 ++ [29, 16, b1, b2] ++ mc).length = w0.length + 4 + 12 := by rw [List.length_append, hl1, hmcl]
    rw [hA, hM, ← List.map_append, hT, hO, hS, show Int.toNat ((S:Int) - ((w0.length + 4 + 12:Nat):Int)) = S - R by omega, zeros8, hr8, ← List.map_append, hw2, List.length_map, List.length_map, List.length_map, hl1, hl3]
    have hq : w0.length + 4 + 12 + (S - R) = L.length := by omega
    rw [hq]
    (repeat' (first | exact trivial | exact hI | exact Aa _ | exact rfl | exact Nat.le_refl _ | refine And.intro ?_ ?_)) <;> first | omega | (unfold La; omega) | (show sk.length ≤ 1000000; omega)
   ·have h : a9 = false := h
    rw [h, show optL false ([29, 16, b1, b2] ++ mc) = [] from rfl, List.nil_append] at hw
    have hl2 := hlay _ hw
    rw [hT, hO, hS, show Int.toNat ((S:Int) - ((w0.length:Nat):Int)) = S - R by omega, zeros8, hr8, ← List.map_append, hw, List.length_map]
    have hq : w0.length + (S - R) = L.length := by omega
    rw [hq]
    (repeat' (first | exact trivial | exact hI | exact Aa _ | exact rfl | exact Nat.le_refl _ | refine And.intro ?_ ?_)) <;> first | omega | (unfold La; omega) | (show sk.length ≤ 1000000; omega)
  | succ d ih =>
   intro i w0 hi hw
   obtain ⟨g0, g1⟩ := sak_at (l := sk) (i := i) (by omega)
   have hlen := congrArg List.length hw
   rw [List.length_append] at hlen
   have ih := ih (i + 1) (w0 ++ (b32 (sk[i]'(by omega)).1 ++ b32 (sk[i]'(by omega)).2)) (by omega) (by
    rw [← hw, List.drop_eq_getElem_cons (by omega : i < sk.length)]
    show _ = w0 ++ (((b32 _ ++ b32 _) ++ sakL _) ++ _)
    simp only [List.append_assoc])
   have e8 : (w0 ++ (b32 (sk[i]'(by omega)).1 ++ b32 (sk[i]'(by omega)).2)).length = w0.length + 8 := by
    rw [List.length_append, List.length_append, b32_len, b32_len]
   rw [e8] at ih
   refine vc125l hY _ _ _ _ _ _ _ _ _ _ _ _ _ _ _ _ _ _ _ _ _ _ _ _ _ _ _ _ ⟨fun _ => ?_, fun h => absurd (of_decide_eq_false h) (by omega)⟩
   try dsimp only
   rw [g0, g1, tk w0]
   simp only [Xb, tk2u, asN_map, Ua, Ja, pt44, List.length_map]
   rw [show ((i:Nat):Int) + 1 = ((i + 1:Nat):Int) by omega]
   (repeat' (first | exact trivial | exact Aa _ | exact flat_u64 _ | exact Ba _ | exact Ud _ | exact rfl | exact Nat.le_refl _ | exact ⟨ih⟩ | refine And.intro ?_ ?_)) <;> first | omega | (unfold La; omega)
 have hb : ∀ (w r : List (BitVec 8)), w ++ r = L → w.length ≤ 40 := fun w r h => by
  have := congrArg List.length h
  rw [List.length_append] at this
  omega
 have KH : ∀ (w0 : List (BitVec 8)), w0 ++ (sakH sk.length ++ (sakL sk ++ (optL a9 ([29, 16, b1, b2] ++ mc) ++ r8))) = L → ∀ Y : Ctx, Y.P = Try.prog →
   ((0:Int) < (sk.length:Int) → Ia Y 125 0 (Are (.Ec [.one (.gs 0 L.length 1), .one (.i64 0)]) [some (L.map U8)]) (Fb Try.f125 0) (mkS 95 [(1, .one (.xp [.b a1, .u16 a2, .b a3, .u8 a4, .b a5, .xs (sakC sk) 0 sk.length, .b a6, .u32 a7, .u32 a8, .b a9, .u8 b1, .u8 b2, .u8 c0, .u8 c1, .u8 c2, .u8 c3, .u8 c4, .u8 c5, .u8 c6, .u8 c7, .u8 c8, .u8 c9, .u8 d0, .u8 d1] 0)), (4, .one (.gs 0 (w0.length + 2) 1)), (59, .one (.xs (sakC sk) 0 sk.length)), (60, .one (.i64 sk.length)), (61, .one (.i64 0))]) [some ((w0 ++ [5, BitVec.ofInt 8 (2 + 8 * (sk.length:Int))]).map U8)]) ∧
   (¬ (0:Int) < (sk.length:Int) → Ia Y 125 0 (Are (.Ec [.one (.gs 0 L.length 1), .one (.i64 0)]) [some (L.map U8)]) (Fb Try.f125 0) (mkS 95 [(1, .one (.xp [.b a1, .u16 a2, .b a3, .u8 a4, .b a5, .xs (sakC sk) 0 sk.length, .b a6, .u32 a7, .u32 a8, .b a9, .u8 b1, .u8 b2, .u8 c0, .u8 c1, .u8 c2, .u8 c3, .u8 c4, .u8 c5, .u8 c6, .u8 c7, .u8 c8, .u8 c9, .u8 d0, .u8 d1] 0)), (4, .one (.gs 0 w0.length 1)), (59, .one (.xs (sakC sk) 0 sk.length)), (60, .one (.i64 sk.length)), (61, .one (.i64 0))]) [some (w0.map U8)]) := by
  intro w0 hw Y hY
  refine ⟨fun h => ?_, fun h => ?_⟩
  ·have e : sakH sk.length = [5, BitVec.ofInt 8 (2 + 8 * (sk.length:Int))] := by
    unfold sakH
    rw [if_neg (by omega), show (2 + 8 * (sk.length:Int)) = ((2 + 8 * sk.length:Nat):Int) by omega]
    rfl
   have hl1 : (w0 ++ [5, BitVec.ofInt 8 (2 + 8 * (sk.length:Int))]).length = w0.length + 2 := by rw [List.length_append]; rfl
   have := KL Y hY sk.length 0 (w0 ++ [5, BitVec.ofInt 8 (2 + 8 * (sk.length:Int))]) (by omega) (by rw [← hw, e]; simp only [List.append_assoc, List.drop_zero])
   rwa [hl1] at this
  ·have e : sakH sk.length = [] := by
    unfold sakH
    rw [if_pos (by omega)]
   exact KL Y hY sk.length 0 w0 (by omega) (by rw [← hw, e, List.nil_append, List.drop_zero])
 have K11 : ∀ Y : Ctx, Y.P = Try.prog → ∀ (w0 : List (BitVec 8)), w0 ++ (sakH sk.length ++ (sakL sk ++ (optL a9 ([29, 16, b1, b2] ++ mc) ++ r8))) = L → Ia Y 125 0 (Are (.Ec [.one (.gs 0 L.length 1), .one (.i64 0)]) [some (L.map U8)]) (Ub Try.f125 11) (mkS 95 [(1, .one (.xp [.b a1, .u16 a2, .b a3, .u8 a4, .b a5, .xs (sakC sk) 0 sk.length, .b a6, .u32 a7, .u32 a8, .b a9, .u8 b1, .u8 b2, .u8 c0, .u8 c1, .u8 c2, .u8 c3, .u8 c4, .u8 c5, .u8 c6, .u8 c7, .u8 c8, .u8 c9, .u8 d0, .u8 d1] 0)), (4, .one (.gs 0 w0.length 1))]) [some (w0.map U8)] := by
  intro Y hY w0 hw
  have hwb := hb _ _ hw
  have hA : w0.map U8 ++ take 2 (drop 0 [Zc (Value.int IntKind.u8 5), .u8 (BitVec.ofInt 8 (2 + 8 * (sk.length:Int)))]) = (w0 ++ [5, BitVec.ofInt 8 (2 + 8 * (sk.length:Int))]).map U8 := lay_app _ _ _ _ rfl
  obtain ⟨k1, k2⟩ := KH w0 hw Y hY
  refine vc125f hY _ _ _ _ _ _ _ _ _ _ _ _ _ _ _ _ _ _ _ _ _ _ _ _ _ _ _ ⟨rfl, fun h => ?_, fun h => ?_⟩
  ·have K := k1 (of_decide_eq_true h)
   simp only [xsLen, Td]
   rw [hA, List.length_map]
   (repeat' (first | exact trivial | exact Aa _ | exact rfl | exact Nat.le_refl _ | exact ⟨K⟩ | refine And.intro ?_ ?_)) <;> first | omega | (unfold La; omega)
  ·have K := k2 (of_decide_eq_false h)
   exact ⟨rfl, Aa _, ⟨K⟩⟩
 have K10f : ∀ Y : Ctx, Y.P = Try.prog → ∀ (w0 : List (BitVec 8)), w0 ++ (sakH sk.length ++ (sakL sk ++ (optL a9 ([29, 16, b1, b2] ++ mc) ++ r8))) = L → Ia Y 125 0 (Are (.Ec [.one (.gs 0 L.length 1), .one (.i64 0)]) [some (L.map U8)]) (Ub Try.f125 10) (mkS 95 [(1, .one (.xp [.b a1, .u16 a2, .b a3, .u8 a4, .b a5, .xs (sakC sk) 0 sk.length, .b a6, .u32 a7, .u32 a8, .b a9, .u8 b1, .u8 b2, .u8 c0, .u8 c1, .u8 c2, .u8 c3, .u8 c4, .u8 c5, .u8 c6, .u8 c7, .u8 c8, .u8 c9, .u8 d0, .u8 d1] 0)), (4, .one (.gs 0 w0.length 1)), (34, .one (.b false))]) [some (w0.map U8)] := by
  intro Y hY w0 hw
  have hwb := hb _ _ hw
  have hA : w0.map U8 ++ take 2 (drop 0 [Zc (Value.int IntKind.u8 5), .u8 (BitVec.ofInt 8 (2 + 8 * (sk.length:Int)))]) = (w0 ++ [5, BitVec.ofInt 8 (2 + 8 * (sk.length:Int))]).map U8 := lay_app _ _ _ _ rfl
  obtain ⟨k1, k2⟩ := KH w0 hw Y hY
  refine vc125u hY _ _ _ _ _ _ _ _ _ _ _ _ _ _ _ _ _ _ _ _ _ _ _ _ _ _ _ ⟨rfl, fun h => ?_, fun h => ?_⟩
  ·have K := k1 (of_decide_eq_true h)
   simp only [xsLen, Td]
   rw [hA, List.length_map]
   (repeat' (first | exact trivial | exact Aa _ | exact rfl | exact Nat.le_refl _ | exact ⟨K⟩ | refine And.intro ?_ ?_)) <;> first | omega | (unfold La; omega)
  ·have K := k2 (of_decide_eq_false h)
   exact ⟨rfl, Aa _, ⟨K⟩⟩
 have K10t : ∀ Y : Ctx, Y.P = Try.prog → ∀ (w0 : List (BitVec 8)), w0 ++ ([8, 10] ++ (b32 a7 ++ b32 a8) ++ (sakH sk.length ++ (sakL sk ++ (optL a9 ([29, 16, b1, b2] ++ mc) ++ r8)))) = L → Ia Y 125 0 (Are (.Ec [.one (.gs 0 L.length 1), .one (.i64 0)]) [some (L.map U8)]) (Ub Try.f125 10) (mkS 95 [(1, .one (.xp [.b a1, .u16 a2, .b a3, .u8 a4, .b a5, .xs (sakC sk) 0 sk.length, .b a6, .u32 a7, .u32 a8, .b a9, .u8 b1, .u8 b2, .u8 c0, .u8 c1, .u8 c2, .u8 c3, .u8 c4, .u8 c5, .u8 c6, .u8 c7, .u8 c8, .u8 c9, .u8 d0, .u8 d1] 0)), (4, .one (.gs 0 w0.length 1)), (34, .one (.b true))]) [some (w0.map U8)] := by
  intro Y hY w0 hw
  have hwb := hb _ _ hw
  have hA : w0.map U8 ++ take 2 (drop 0 [Zc (Value.int IntKind.u8 8), Zc (Value.int IntKind.u8 10)]) = (w0 ++ [8, 10]).map U8 := lay_app _ _ _ _ rfl
  have hl1 : (w0 ++ [8, 10]).length = w0.length + 2 := by rw [List.length_append]; rfl
  have hl2 : (w0 ++ [8, 10] ++ (b32 a7 ++ b32 a8)).length = w0.length + 2 + 8 := by rw [List.length_append, hl1, List.length_append, b32_len, b32_len]
  have K := K11 Y hY (w0 ++ [8, 10] ++ (b32 a7 ++ b32 a8)) (by rw [← hw]; simp only [List.append_assoc])
  rw [hl2] at K
  have hK := tkn1 (w0 ++ [8, 10]) (w0.length + 2) hl1
  refine vc125t hY _ _ _ _ _ _ _ _ _ _ _ _ _ _ _ _ _ _ _ _ _ _ _ _ _ _ _ ?_
  simp only [hA, hK, tk2u, asN_map, Ua, Ja, pt44, List.length_map, hl1]
  clear hK hA KL KH K11 K10f
  (repeat' (first | exact trivial | exact Aa _ | exact flat_u64 _ | exact Ba _ | exact Ud _ | exact rfl | exact Nat.le_refl _ | exact ⟨K⟩ | refine And.intro ?_ ?_)) <;> omega
 have W6 : ∀ Y : Ctx, Y.P = Try.prog → ∀ (w0 : List (BitVec 8)), w0 ++ (optL a6 ([8, 10] ++ (b32 a7 ++ b32 a8)) ++ (sakH sk.length ++ (sakL sk ++ (optL a9 ([29, 16, b1, b2] ++ mc) ++ r8)))) = L → (a6 = true → Flat (w0.map U8) ∧ KR Y 125 0 (Are (.Ec [.one (.gs 0 L.length 1), .one (.i64 0)]) [some (L.map U8)]) (Ub Try.f125 10) (mkS 95 [(1, .one (.xp [.b a1, .u16 a2, .b a3, .u8 a4, .b a5, .xs (sakC sk) 0 sk.length, .b a6, .u32 a7, .u32 a8, .b a9, .u8 b1, .u8 b2, .u8 c0, .u8 c1, .u8 c2, .u8 c3, .u8 c4, .u8 c5, .u8 c6, .u8 c7, .u8 c8, .u8 c9, .u8 d0, .u8 d1] 0)), (4, .one (.gs 0 w0.length 1)), (34, .one (.b true))]) [some (w0.map U8)]) ∧ (a6 = false → Flat (w0.map U8) ∧ KR Y 125 0 (Are (.Ec [.one (.gs 0 L.length 1), .one (.i64 0)]) [some (L.map U8)]) (Ub Try.f125 10) (mkS 95 [(1, .one (.xp [.b a1, .u16 a2, .b a3, .u8 a4, .b a5, .xs (sakC sk) 0 sk.length, .b a6, .u32 a7, .u32 a8, .b a9, .u8 b1, .u8 b2, .u8 c0, .u8 c1, .u8 c2, .u8 c3, .u8 c4, .u8 c5, .u8 c6, .u8 c7, .u8 c8, .u8 c9, .u8 d0, .u8 d1] 0)), (4, .one (.gs 0 w0.length 1)), (34, .one (.b false))]) [some (w0.map U8)]) := by
  intro Y hY w0 hw
  refine ⟨fun h => ⟨Aa _, ⟨K10t Y hY w0 ?_⟩⟩, fun h => ⟨Aa _, ⟨K10f Y hY w0 ?_⟩⟩⟩
  ·rw [h] at hw; exact hw
  ·rw [h] at hw; exact hw
 have K9 : ∀ Y : Ctx, Y.P = Try.prog → ∀ (w0 : List (BitVec 8)), w0 ++ (optL a6 ([8, 10] ++ (b32 a7 ++ b32 a8)) ++ (sakH sk.length ++ (sakL sk ++ (optL a9 ([29, 16, b1, b2] ++ mc) ++ r8)))) = L → Ia Y 125 0 (Are (.Ec [.one (.gs 0 L.length 1), .one (.i64 0)]) [some (L.map U8)]) (Ub Try.f125 9) (mkS 95 [(1, .one (.xp [.b a1, .u16 a2, .b a3, .u8 a4, .b a5, .xs (sakC sk) 0 sk.length, .b a6, .u32 a7, .u32 a8, .b a9, .u8 b1, .u8 b2, .u8 c0, .u8 c1, .u8 c2, .u8 c3, .u8 c4, .u8 c5, .u8 c6, .u8 c7, .u8 c8, .u8 c9, .u8 d0, .u8 d1] 0)), (4, .one (.gs 0 w0.length 1))]) [some (w0.map U8)] := by
  intro Y hY w0 hw
  exact vc125d hY _ _ _ _ _ _ _ _ _ _ _ _ _ _ _ _ _ _ _ _ _ _ _ _ _ _ _ ⟨rfl, W6 Y hY w0 hw⟩
 have K7 : ∀ Y : Ctx, Y.P = Try.prog → ∀ (w0 : List (BitVec 8)), w0 ++ (optL a5 ([4, 2] ++ []) ++ (optL a6 ([8, 10] ++ (b32 a7 ++ b32 a8)) ++ (sakH sk.length ++ (sakL sk ++ (optL a9 ([29, 16, b1, b2] ++ mc) ++ r8))))) = L → Ia Y 125 0 (Are (.Ec [.one (.gs 0 L.length 1), .one (.i64 0)]) [some (L.map U8)]) (Ub Try.f125 7) (mkS 95 [(1, .one (.xp [.b a1, .u16 a2, .b a3, .u8 a4, .b a5, .xs (sakC sk) 0 sk.length, .b a6, .u32 a7, .u32 a8, .b a9, .u8 b1, .u8 b2, .u8 c0, .u8 c1, .u8 c2, .u8 c3, .u8 c4, .u8 c5, .u8 c6, .u8 c7, .u8 c8, .u8 c9, .u8 d0, .u8 d1] 0)), (4, .one (.gs 0 w0.length 1))]) [some (w0.map U8)] := by
  intro Y hY w0 hw
  have hwb := hb _ _ hw
  refine vc125c hY _ _ _ _ _ _ _ _ _ _ _ _ _ _ _ _ _ _ _ _ _ _ _ _ _ _ _ ⟨rfl, fun h => ?_, fun h => ?_⟩
  ·have h : a5 = true := h
   rw [h] at hw
   have hw : w0 ++ (([4, 2]) ++ _) = L := hw
   have hA : w0.map U8 ++ take 2 (drop 0 [Zc (Value.int IntKind.u8 4), Zc (Value.int IntKind.u8 2)]) = (w0 ++ ([4, 2])).map U8 := lay_app _ _ _ _ rfl
   have hl1 : (w0 ++ ([4, 2])).length = w0.length + 2 := by rw [List.length_append]; rfl
   have K := K9 Y hY (w0 ++ ([4, 2])) (by rw [← hw]; simp only [List.append_assoc])
   rw [hl1] at K
   rw [hA, List.length_map]
   (repeat' (first | exact trivial | exact Aa _ | exact rfl | exact Nat.le_refl _ | exact ⟨K⟩ | refine And.intro ?_ ?_)) <;> omega
  ·have h : a5 = false := h
   rw [h] at hw
   exact ⟨rfl, W6 Y hY w0 hw⟩
 have K5 : ∀ Y : Ctx, Y.P = Try.prog → ∀ (w0 : List (BitVec 8)), w0 ++ (optL a3 ([3, 3] ++ [a4]) ++ (optL a5 ([4, 2] ++ []) ++ (optL a6 ([8, 10] ++ (b32 a7 ++ b32 a8)) ++ (sakH sk.length ++ (sakL sk ++ (optL a9 ([29, 16, b1, b2] ++ mc) ++ r8)))))) = L → Ia Y 125 0 (Are (.Ec [.one (.gs 0 L.length 1), .one (.i64 0)]) [some (L.map U8)]) (Ub Try.f125 5) (mkS 95 [(1, .one (.xp [.b a1, .u16 a2, .b a3, .u8 a4, .b a5, .xs (sakC sk) 0 sk.length, .b a6, .u32 a7, .u32 a8, .b a9, .u8 b1, .u8 b2, .u8 c0, .u8 c1, .u8 c2, .u8 c3, .u8 c4, .u8 c5, .u8 c6, .u8 c7, .u8 c8, .u8 c9, .u8 d0, .u8 d1] 0)), (4, .one (.gs 0 w0.length 1))]) [some (w0.map U8)] := by
  intro Y hY w0 hw
  have hwb := hb _ _ hw
  refine vc125b hY _ _ _ _ _ _ _ _ _ _ _ _ _ _ _ _ _ _ _ _ _ _ _ _ _ _ _ ⟨rfl, fun h => ?_, fun h => ⟨rfl, fun h2 => ?_, fun h2 => ?_⟩⟩
  ·have h : a3 = true := h
   rw [h] at hw
   have hw : w0 ++ (([3, 3, a4]) ++ _) = L := hw
   have hA : w0.map U8 ++ take 3 (drop 0 [Zc (Value.int IntKind.u8 3), Zc (Value.int IntKind.u8 3), .u8 a4]) = (w0 ++ ([3, 3, a4])).map U8 := lay_app _ _ _ _ rfl
   have hl1 : (w0 ++ ([3, 3, a4])).length = w0.length + 3 := by rw [List.length_append]; rfl
   have K := K7 Y hY (w0 ++ ([3, 3, a4])) (by rw [← hw]; simp only [List.append_assoc])
   rw [hl1] at K
   rw [hA, List.length_map]
   (repeat' (first | exact trivial | exact Aa _ | exact rfl | exact Nat.le_refl _ | exact ⟨K⟩ | refine And.intro ?_ ?_)) <;> omega
  ·rw [show a3 = false from h] at hw
   have hw : w0 ++ (optL a5 ([4, 2] ++ []) ++ (optL a6 ([8, 10] ++ (b32 a7 ++ b32 a8)) ++ (sakH sk.length ++ (sakL sk ++ (optL a9 ([29, 16, b1, b2] ++ mc) ++ r8))))) = L := hw
   have h := h2
   have h : a5 = true := h
   rw [h] at hw
   have hw : w0 ++ (([4, 2]) ++ _) = L := hw
   have hA : w0.map U8 ++ take 2 (drop 0 [Zc (Value.int IntKind.u8 4), Zc (Value.int IntKind.u8 2)]) = (w0 ++ ([4, 2])).map U8 := lay_app _ _ _ _ rfl
   have hl1 : (w0 ++ ([4, 2])).length = w0.length + 2 := by rw [List.length_append]; rfl
   have K := K9 Y hY (w0 ++ ([4, 2])) (by rw [← hw]; simp only [List.append_assoc])
   rw [hl1] at K
   rw [hA, List.length_map]
   (repeat' (first | exact trivial | exact Aa _ | exact rfl | exact Nat.le_refl _ | exact ⟨K⟩ | refine And.intro ?_ ?_)) <;> omega
  ·rw [show a3 = false from h, show a5 = false from h2] at hw
   exact ⟨rfl, W6 Y hY w0 hw⟩
 have K3 : ∀ Y : Ctx, Y.P = Try.prog → ∀ (w0 : List (BitVec 8)), w0 ++ (optL a1 ([2, 4] ++ b16 a2) ++ (optL a3 ([3, 3] ++ [a4]) ++ (optL a5 ([4, 2] ++ []) ++ (optL a6 ([8, 10] ++ (b32 a7 ++ b32 a8)) ++ (sakH sk.length ++ (sakL sk ++ (optL a9 ([29, 16, b1, b2] ++ mc) ++ r8))))))) = L → Ia Y 125 0 (Are (.Ec [.one (.gs 0 L.length 1), .one (.i64 0)]) [some (L.map U8)]) (Ub Try.f125 3) (mkS 95 [(1, .one (.xp [.b a1, .u16 a2, .b a3, .u8 a4, .b a5, .xs (sakC sk) 0 sk.length, .b a6, .u32 a7, .u32 a8, .b a9, .u8 b1, .u8 b2, .u8 c0, .u8 c1, .u8 c2, .u8 c3, .u8 c4, .u8 c5, .u8 c6, .u8 c7, .u8 c8, .u8 c9, .u8 d0, .u8 d1] 0)), (4, .one (.gs 0 w0.length 1))]) [some (w0.map U8)] := by
  intro Y hY w0 hw
  have hwb := hb _ _ hw
  refine vc125a hY _ _ _ _ _ _ _ _ _ _ _ _ _ _ _ _ _ _ _ _ _ _ _ _ _ _ _ ⟨rfl, fun h => ?_, fun h => ⟨rfl, fun h1 => ?_, fun h1 => ⟨rfl, fun h2 => ?_, fun h2 => ?_⟩⟩⟩
  ·have h : a1 = true := h
   rw [h] at hw
   have hw : w0 ++ (([2, 4] ++ b16 a2) ++ _) = L := hw
   have hA : w0.map U8 ++ take 2 (drop 0 [Zc (Value.int IntKind.u8 2), Zc (Value.int IntKind.u8 4)]) = (w0 ++ [2, 4]).map U8 := lay_app _ _ _ _ rfl
   have hl1 : (w0 ++ [2, 4]).length = w0.length + 2 := by rw [List.length_append]; rfl
   have hl2 : (w0 ++ [2, 4] ++ b16 a2).length = w0.length + 2 + 2 := by rw [List.length_append, hl1, b16_len]
   have K := K5 Y hY (w0 ++ [2, 4] ++ b16 a2) (by rw [← hw]; simp only [List.append_assoc])
   rw [hl2] at K
   have hK := tkn1 (w0 ++ [2, 4]) (w0.length + 2) hl1
   simp only [hA, hK, tk1, asN_map, Ua, Ja, pt2, List.length_map, hl1]
   clear hK hA KL KH K11 K10f K10t W6 K9 K7 K5
   (repeat' (first | exact trivial | exact Aa _ | exact flat_u64 _ | exact Ba _ | exact Ud _ | exact rfl | exact Nat.le_refl _ | exact ⟨K⟩ | refine And.intro ?_ ?_)) <;> omega
  ·rw [show a1 = false from h] at hw
   have hw : w0 ++ (optL a3 ([3, 3] ++ [a4]) ++ (optL a5 ([4, 2] ++ []) ++ (optL a6 ([8, 10] ++ (b32 a7 ++ b32 a8)) ++ (sakH sk.length ++ (sakL sk ++ (optL a9 ([29, 16, b1, b2] ++ mc) ++ r8)))))) = L := hw
   have h := h1
   have h : a3 = true := h
   rw [h] at hw
   have hw : w0 ++ (([3, 3, a4]) ++ _) = L := hw
   have hA : w0.map U8 ++ take 3 (drop 0 [Zc (Value.int IntKind.u8 3), Zc (Value.int IntKind.u8 3), .u8 a4]) = (w0 ++ ([3, 3, a4])).map U8 := lay_app _ _ _ _ rfl
   have hl1 : (w0 ++ ([3, 3, a4])).length = w0.length + 3 := by rw [List.length_append]; rfl
   have K := K7 Y hY (w0 ++ ([3, 3, a4])) (by rw [← hw]; simp only [List.append_assoc])
   rw [hl1] at K
   rw [hA, List.length_map]
   (repeat' (first | exact trivial | exact Aa _ | exact rfl | exact Nat.le_refl _ | exact ⟨K⟩ | refine And.intro ?_ ?_)) <;> omega
  ·rw [show a1 = false from h, show a3 = false from h1] at hw
   have hw : w0 ++ (optL a5 ([4, 2] ++ []) ++ (optL a6 ([8, 10] ++ (b32 a7 ++ b32 a8)) ++ (sakH sk.length ++ (sakL sk ++ (optL a9 ([29, 16, b1, b2] ++ mc) ++ r8))))) = L := hw
   have h := h2
   have h : a5 = true := h
   rw [h] at hw
   have hw : w0 ++ (([4, 2]) ++ _) = L := hw
   have hA : w0.map U8 ++ take 2 (drop 0 [Zc (Value.int IntKind.u8 4), Zc (Value.int IntKind.u8 2)]) = (w0 ++ ([4, 2])).map U8 := lay_app _ _ _ _ rfl
   have hl1 : (w0 ++ ([4, 2])).length = w0.length + 2 := by rw [List.length_append]; rfl
   have K := K9 Y hY (w0 ++ ([4, 2])) (by rw [← hw]; simp only [List.append_assoc])
   rw [hl1] at K
   rw [hA, List.length_map]
   (repeat' (first | exact trivial | exact Aa _ | exact rfl | exact Nat.le_refl _ | exact ⟨K⟩ | refine And.intro ?_ ?_)) <;> omega
  ·rw [show a1 = false from h, show a3 = false from h1, show a5 = false from h2] at hw
   exact ⟨rfl, W6 Y hY w0 hw⟩
 subst hmc
 refine Spec.of_run ok125 fun X hX => vc125 hX _ _ _ _ _ _ _ _ _ _ _ _ _ _ _ _ _ _ _ _ _ _ _ _ _ ⟨hI, fun h => ⟨hF, ⟨?_⟩⟩, fun h => ?_⟩
 ·refine Ia.freeze 1 rfl ?_ hF (by show 0 < 24; omega) ?_ ?_
  ·exact flatS_ok ⟨.inl rfl, .inr rfl, trivial⟩
  ·rintro r m' ⟨rfl, rfl⟩
   refine ⟨rfl, fun i row hi => ?_⟩
   cases i with
   | zero => injection hi with hi; injection hi with hi; subst hi; exact Ud _
   | succ i => simp at hi
  ·intro Y hY
   refine Ia.pad 4 1 rfl ?_
   exact K3 Y (hY.trans hX) [] (by rw [← hLL]; simp only [List.nil_append, List.append_assoc])
 ·erw [hO] at h
  rw [hm] at h; cases h
end DH
