/- far: the order of facts with lengths; heaps in lists: plain laws; The library's contracts laid at this program: which function, which type bears which number; azimov: the work list: Swap, Push, Pop; container/heap over the work list: up, down, Push, Pop; the list is permuted; container/heap's Push and Pop over the work list; put; azimov: the work list with its marks; put; azimov: the closure in memory; next; Graphs: Matrix; azimov: the first facts of a production. (Written by mkAzW.py.); azimov: the first facts of a production of one label. -/
import Derived.Test.YteffnejneoocgaaGreatDoorF10
import Derived.Test.YteffnejneoocgaaGreatDoorF01
import Derived.Shelf.SlSortCmp.WholeK
import Derived.Shelf.SlSortCmp.NoneTotal
import Derived.Test.YteffnejneoocgaaGreatDoorProg
import Derived.Test.YteffnejneoocgaaGreatDoorF09
set_option linter.unusedVariables false
set_option linter.unusedSimpArgs false
set_option maxHeartbeats 16000000
set_option maxRecDepth 100000
namespace Go.Proofs.YteffnejneoocgaaGreatDoor
def ltN(x y:Ln):Prop:=x.2<y.2∨x.2=y.2∧(x.1.1<y.1.1∨x.1.1=y.1.1∧(x.1.2.1<y.1.2.1∨x.1.2.1=y.1.2.1∧x.1.2.2<y.1.2.2))
instance (x y:Ln):Decidable (ltN x y):=by unfold ltN;exact inferInstance
def mU(x y:Ln):Bool:=decide (ltN x y)
theorem yO{x y:Ln}:mU x y=true↔ltN x y:=by unfold mU;exact decide_eq_true_iff
theorem sH{x y:Ln}:mU x y=false↔¬ltN x y:=by unfold mU;exact decide_eq_false_iff_not
theorem PE:Sto mU where
 irr:=fun a=>by
  rw[sH];unfold ltN;omega
 tr:=fun a b c h k=>by
  rw[yO] at h k ⊢;unfold ltN at h k ⊢;omega
 tri:=fun a b h k=>by
  rw[sH] at h k;unfold ltN at h k;obtain⟨⟨a1,a2,a3⟩,a4⟩:=a;obtain⟨⟨b1,b2,b3⟩,b4⟩:=b;dsimp only at h k
  obtain⟨rfl,rfl,rfl,rfl⟩:a1=b1∧a2=b2∧a3=b3∧a4=b4:=by omega
  rfl
def leN(x y:Ln):Prop:=mU y x=false
theorem leN.trans{x y z:Ln}(h:leN x y)(k:leN y z):leN x z:=by
 unfold leN at h k ⊢;rw[sH] at h k ⊢;unfold ltN at h k ⊢;omega
theorem leN.len{x y:Ln}(h:leN x y):x.2≤y.2:=by
 unfold leN at h;rw[sH] at h;unfold ltN at h;omega
theorem leN.of{x y:Ln}(h:mU x y=true):leN x y:=PE.asym h
theorem leN.refl(x:Ln):leN x x:=PE.irr x
def HpM(L:List Ln)(m:Nat):Prop:=∀i x y,0<i→i<m→L[(i-1) / 2]?=some x→L[i]?=some y→leN x y
def HpU(L:List Ln)(m k:Nat):Prop:=(∀i x y,0<i→i<m→i≠k→L[(i-1) / 2]?=some x→L[i]?=some y→leN x y) ∧
 ∀i x y,0<i→i<m→(i-1) / 2=k→0<k→L[(k-1) / 2]?=some x→L[i]?=some y→leN x y
def HpD(L:List Ln)(m k:Nat):Prop:=(∀i x y,0<i→i<m→(i-1) / 2≠k→L[(i-1) / 2]?=some x→L[i]?=some y→leN x y) ∧
 ∀i x y,0<i→i<m→(i-1) / 2=k→0<k→L[(k-1) / 2]?=some x→L[i]?=some y→leN x y
def dJ(L:List Ln)(i j:Nat)(x y:Ln):List Ln:=(L.set i y).set j x
theorem uT(L:List Ln)(i j:Nat)(x y:Ln):(dJ L i j x y).length=L.length:=by simp[dJ]
theorem gX{L:List Ln}{i j:Nat}{x y:Ln}(hi:L[i]?=some x)(hj:L[j]?=some y):(dJ L i j x y).Perm L:=by
 obtain⟨h1,e1⟩:=gO.1 hi;obtain⟨h2,e2⟩:=gO.1 hj;have:=List.set_set_perm h1 h2;rw[e1,e2] at this;exact this
theorem fA{L:List Ln}{i j:Nat}{x y:Ln}(hi:L[i]?=some x)(hj:L[j]?=some y)(t:Nat):(dJ L i j x y)[t]?=if t=j then some x else if t=i then some y else L[t]?:=by
 obtain⟨h1,-⟩:=gO.1 hi;obtain⟨h2,-⟩:=gO.1 hj;unfold dJ;rw[List.getElem?_set];by_cases e:j=t
 ·subst e;simp[h2]
 ·rw[if_neg e,if_neg (fun h=>e h.symm),List.getElem?_set];by_cases e2:i=t
  ·subst e2;simp[h1]
  ·rw[if_neg e2,if_neg (fun h=>e2 h.symm)]
theorem HpU.start{L:List Ln}{n:Nat}(h:HpM L n):HpU L (n+1) n:=
 ⟨fun i x y h0 h1 h2=>h i x y h0 (by omega),fun i x y h0 h1 h2=>by omega⟩
theorem HpU.stop0{L:List Ln}{n:Nat}(h:HpU L n 0):HpM L n:=fun i x y h0 h1=>h.1 i x y h0 h1 (by omega)
theorem HpU.stop{L:List Ln}{n k:Nat}{x y:Ln}(h:HpU L n k)(hk:L[k]?=some y)(hq:L[(k-1) / 2]?=some x)(hl:mU y x=false):HpM L n:=fun i u v h0 h1 hu hv=>by
 by_cases e:i=k
 ·subst e;rw[hk] at hv;rw[hq] at hu;obtain rfl:=Option.some.inj hv;obtain rfl:=Option.some.inj hu;exact hl
 ·exact h.1 i u v h0 h1 e hu hv
theorem HpU.step{L:List Ln}{n k q:Nat}{x y:Ln}(h:HpU L n k)(hk0:0<k)(hkn:k<n)(hqd:(k-1) / 2=q)(hk:L[k]?=some y)(hq:L[q]?=some x)(hl:mU y x=true):HpU (dJ L q k x y) n q:=by
 have hqk:q<k:=by omega
 refine⟨fun i u v h0 h1 h2 hu hv=>?_,fun i u v h0 h1 h2 h3 hu hv=>?_⟩
 ·rw[fA hq hk] at hu hv;by_cases e1:i=k
  ·subst e1;rw[if_pos rfl] at hv;rw[hqd,if_neg (by omega),if_pos rfl] at hu;obtain rfl:=Option.some.inj hv;obtain rfl:=Option.some.inj hu;exact .of hl
  ·rw[if_neg e1,if_neg h2] at hv;by_cases e2:(i-1) / 2=k
   ·rw[if_pos e2] at hu;obtain rfl:=Option.some.inj hu;exact h.2 i _ v h0 h1 e2 hk0 (by rw[hqd];exact hq) hv
   ·rw[if_neg e2] at hu;by_cases e3:(i-1) / 2=q
    ·rw[if_pos e3] at hu;obtain rfl:=Option.some.inj hu;exact(leN.of hl).trans (h.1 i x v h0 h1 e1 (by rw[e3];exact hq) hv)
    ·rw[if_neg e3] at hu;exact h.1 i u v h0 h1 e1 hu hv
 ·rw[fA hq hk] at hu hv;rw[if_neg (by omega),if_neg (by omega)] at hu;have hux:leN u x:=h.1 q u x h3 (by omega) (by omega) hu hq;by_cases e1:i=k
  ·rw[if_pos e1] at hv;obtain rfl:=Option.some.inj hv;exact hux
  ·rw[if_neg e1,if_neg (by omega)] at hv;exact hux.trans (h.1 i x v h0 h1 e1 (by rw[h2];exact hq) hv)
theorem HpM.root{L:List Ln}{m:Nat}(h:HpM L m)(hm:m≤L.length){x:Ln}(h0:L[0]?=some x):∀i y,i<m→L[i]?=some y→leN x y:=by
 intro i;induction i using Nat.strongRecOn with
 | _ i ih =>
  intro y hi hy;by_cases e:i=0
  ·subst e;rw[h0] at hy;obtain rfl:=Option.some.inj hy;exact .refl _
  ·obtain⟨u,hu⟩:∃u,L[(i-1) / 2]?=some u:=⟨_,gEz (by omega)⟩;exact(ih ((i-1) / 2) (by omega) u (by omega) hu).trans (h i u y (by omega) hi hu hy)
theorem HpD.start{L:List Ln}{m:Nat}{x y:Ln}(h:HpM L (m+1))(h0:L[0]?=some x)(h1:L[m]?=some y):HpD (dJ L 0 m x y) m 0:=
 ⟨fun i u v hi him hne hu hv=>by
  rw[fA h0 h1,if_neg (by omega),if_neg (by omega)] at hv;rw[fA h0 h1,if_neg (by omega),if_neg hne] at hu;exact h i u v hi (by omega) hu hv,fun i u v _ _ _ h=>by omega⟩
theorem HpD.none{L:List Ln}{m k:Nat}(h:HpD L m k)(hk:m≤2*k+1):HpM L m:=fun i x y h0 h1=>h.1 i x y h0 h1 (by omega)
theorem HpD.stop{L:List Ln}{m k:Nat}{x y:Ln}(h:HpD L m k)(hk:L[k]?=some x)(hc:∀i v,0<i→i<m→(i-1) / 2=k→L[i]?=some v→leN y v)(hl:mU y x=false):HpM L m:=fun i u v h0 h1 hu hv=>by
 by_cases e:(i-1) / 2=k
 ·rw[e,hk] at hu;obtain rfl:=Option.some.inj hu;exact leN.trans hl (hc i v h0 h1 e hv)
 ·exact h.1 i u v h0 h1 e hu hv
theorem HpD.step{L:List Ln}{m k j:Nat}{x y:Ln}(h:HpD L m k)(hj0:0<j)(hjm:j<m)(hjk:(j-1) / 2=k)(hk:L[k]?=some x)(hj:L[j]?=some y)(hc:∀i v,0<i→i<m→(i-1) / 2=k→L[i]?=some v→leN y v)(hl:mU y x=true):HpD (dJ L k j x y) m j:=by
 refine⟨fun i u v h0 h1 h2 hu hv=>?_,fun i u v h0 h1 h2 h3 hu hv=>?_⟩
 ·rw[fA hk hj] at hu hv;rw[if_neg h2] at hu;by_cases e1:i=j
  ·rw[if_pos e1] at hv;obtain rfl:=Option.some.inj hv;rw[if_pos (by rw[e1];exact hjk)] at hu;obtain rfl:=Option.some.inj hu;exact .of hl
  ·rw[if_neg e1] at hv;by_cases e2:(i-1) / 2=k
   ·rw[if_pos e2] at hu;obtain rfl:=Option.some.inj hu;rw[if_neg (by omega)] at hv;exact hc i v h0 h1 e2 hv
   ·rw[if_neg e2] at hu;by_cases e3:i=k
    ·rw[if_pos e3] at hv;obtain rfl:=Option.some.inj hv;rw[e3] at hu;exact h.2 j u _ hj0 hjm hjk (by omega) hu hj
    ·rw[if_neg e3] at hv;exact h.1 i u v h0 h1 e2 hu hv
 ·rw[fA hk hj] at hu hv;rw[hjk,if_neg (by omega),if_pos rfl] at hu;obtain rfl:=Option.some.inj hu;rw[if_neg (by omega),if_neg (by omega)] at hv;exact h.1 i _ v h0 h1 (by omega) (by rw[h2];exact hj) hv
open Go.Shelf
def EV:Go.Shelf.Ren:=⟨fun | 0=>0 | 1=>1 | 2=>2 | 6=>58 | 11=>93 | 14=>90 | 15=>91 | 18=>132 | 20=>122 | 21=>123 | 22=>124 | 23=>125 | 24=>126 | 25=>127 | 26=>128 | 27=>129 | 28=>130 | 29=>131 | 46=>158 | 47=>159 | 48=>160 | 49=>161 | 50=>162 | 57=>184 | 60=>243 | 61=>244 | 62=>245 | 63=>246 | 64=>247 | 65=>248 | 66=>249 | 67=>250 | 68=>251 | 69=>252 | 70=>253 | 71=>254 | 72=>255 | 73=>257 | 74=>258 | 75=>276 | n=>n,fun | 0=>0 | 1=>1 | 2=>2 | 3=>3 | 4=>4 | 5=>5 | 6=>6 | 7=>7 | 8=>8 | 9=>9 | 10=>10 | 11=>11 | 12=>12 | 13=>13 | 14=>14 | 15=>15 | 16=>16 | 17=>17 | 18=>18 | 19=>19 | 20=>20 | 21=>21 | 22=>93 | 23=>130 | 24=>97 | 25=>131 | 27=>42 | 29=>160 | 37=>181 | 38=>182 | 39=>183 | 42=>159 | 44=>208 | 45=>209 | 46=>210 | 47=>211 | 48=>212 | 49=>213 | 50=>98 | 51=>214 | 52=>215 | 53=>216 | 54=>217 | 55=>162 | 66=>248 | 67=>249 | 68=>250 | 69=>251 | 70=>252 | 71=>253 | 76=>274 | 77=>76 | 78=>275 | 81=>228 | 82=>317 | 83=>318 | 84=>319 | 85=>320 | 86=>321 | 87=>49 | 88=>322 | 89=>323 | 90=>324 | 91=>256 | 92=>325 | 93=>326 | 94=>327 | 95=>328 | 96=>282 | n=>n,fun n=>n⟩
theorem RW:SlLaysF0.n6 Tryz.prog EV:={
 mixed:=(by kernel_rfl)
 f6:=⟨Tryz.f58.name,by decide,Tryz.func58.trans (congrArg some (by kernel_rfl))⟩
 f14:=⟨Tryz.f90.name,by decide,Tryz.func90.trans (congrArg some (by kernel_rfl))⟩
 f15:=Tryz.func91.trans (congrArg some (by kernel_rfl))
 f20:=⟨Tryz.f122.name,by decide,Tryz.func122.trans (congrArg some (by kernel_rfl))⟩
 f21:=⟨Tryz.f123.name,by decide,Tryz.func123.trans (congrArg some (by kernel_rfl))⟩
 f22:=⟨Tryz.f124.name,by decide,Tryz.func124.trans (congrArg some (by kernel_rfl))⟩
 f23:=⟨Tryz.f125.name,by decide,Tryz.func125.trans (congrArg some (by kernel_rfl))⟩
 f24:=⟨Tryz.f126.name,by decide,Tryz.func126.trans (congrArg some (by kernel_rfl))⟩
 f25:=⟨Tryz.f127.name,by decide,Tryz.func127.trans (congrArg some (by kernel_rfl))⟩
 f26:=⟨Tryz.f128.name,by decide,Tryz.func128.trans (congrArg some (by kernel_rfl))⟩
 f27:=⟨Tryz.f129.name,by decide,Tryz.func129.trans (congrArg some (by kernel_rfl))⟩
 f28:=Tryz.func130.trans (congrArg some (by kernel_rfl))
 f29:=Tryz.func131.trans (congrArg some (by kernel_rfl))
 f46:=⟨Tryz.f158.name,by decide,Tryz.func158.trans (congrArg some (by kernel_rfl))⟩
 f47:=Tryz.func159.trans (congrArg some (by kernel_rfl))
 f48:=Tryz.func160.trans (congrArg some (by kernel_rfl))
 f49:=⟨Tryz.f161.name,by decide,Tryz.func161.trans (congrArg some (by kernel_rfl))⟩
 f50:=⟨Tryz.f162.name,by decide,Tryz.func162.trans (congrArg some (by kernel_rfl))⟩
 f57:=⟨Tryz.f184.name,by decide,Tryz.func184.trans (congrArg some (by kernel_rfl))⟩
 t0:=Tryz.underlying0
 a0:=Tryz.isAgg0
 z0:=Tryz.sizeOf0
 v0:=Tryz.zeroValue0
 t3:=Tryz.underlying3
 a3:=Tryz.isAgg3
 z3:=Tryz.sizeOf3
 v3:=Tryz.zeroValue3
 t4:=Tryz.underlying4
 a4:=Tryz.isAgg4
 z4:=Tryz.sizeOf4
 v4:=Tryz.zeroValue4
 t5:=Tryz.underlying5
 a5:=Tryz.isAgg5
 z5:=Tryz.sizeOf5
 v5:=Tryz.zeroValue5
 t9:=Tryz.underlying9
 a9:=Tryz.isAgg9
 z9:=Tryz.sizeOf9
 v9:=Tryz.zeroValue9
 t22:=Tryz.underlying93
 a22:=Tryz.isAgg93
 z22:=Tryz.sizeOf93
 v22:=Tryz.zeroValue93
 t25:=Tryz.underlying131
 a25:=Tryz.isAgg131
 z25:=Tryz.sizeOf131
 v25:=Tryz.zeroValue131
 t39:=Tryz.underlying183
 a39:=Tryz.isAgg183
 z39:=Tryz.sizeOf183
 v39:=Tryz.zeroValue183
 t45:=Tryz.underlying209
 a45:=Tryz.isAgg209
 z45:=Tryz.sizeOf209
 v45:=Tryz.zeroValue209
 t46:=Tryz.underlying210
 a46:=Tryz.isAgg210
 z46:=Tryz.sizeOf210
 v46:=Tryz.zeroValue210
 t50:=Tryz.underlying98
 a50:=Tryz.isAgg98
 z50:=Tryz.sizeOf98
 v50:=Tryz.zeroValue98
 t53:=Tryz.underlying216
 a53:=Tryz.isAgg216
 z53:=Tryz.sizeOf216
 v53:=Tryz.zeroValue216
 t55:=Tryz.underlying162
 a55:=Tryz.isAgg162
 z55:=Tryz.sizeOf162
 v55:=Tryz.zeroValue162
 t66:=Tryz.underlying248
 a66:=Tryz.isAgg248
 z66:=Tryz.sizeOf248
 v66:=Tryz.zeroValue248
 t70:=Tryz.underlying252
 a70:=Tryz.isAgg252
 z70:=Tryz.sizeOf252
 v70:=Tryz.zeroValue252
 t76:=Tryz.underlying274
 a76:=Tryz.isAgg274
 z76:=Tryz.sizeOf274
 v76:=Tryz.zeroValue274
 t77:=Tryz.underlying76
 a77:=Tryz.isAgg76
 z77:=Tryz.sizeOf76
 v77:=Tryz.zeroValue76 }
open Go.RowKit Go.Shelf
def iT(L:List Int)(i j:Nat)(x y:Int):List Int:=(L.set i y).set j x
theorem lK(L:List Int)(i j:Nat)(x y:Int):(iT L i j x y).length=L.length:=by simp[iT]
theorem gY{L:List Int}{i j:Nat}{x y:Int}(hi:L[i]?=some x)(hj:L[j]?=some y):(iT L i j x y).Perm L:=by
 obtain⟨h1,e1⟩:=gO.1 hi;obtain⟨h2,e2⟩:=gO.1 hj;have:=List.set_set_perm h1 h2;rw[e1,e2] at this;exact this
theorem sI(L:List Int)(i:Nat)(x:Int):(pO L).set i (.int .i64 x)=pO (L.set i x):=by
 simp[pO,List.map_set]
theorem KV(L:List Int):(pO L).length=L.length:=by simp[pO]
theorem iA(w:World)(p:Nat)(lv mv:Value)(L:List Int)(h:ChS w p lv mv L)(hne:∀k,lv.ownBlock=some k→¬k=p)(i j:Nat)(x y:Int)(hi:L[i]?=some x)(hj:L[j]?=some y) :
  Calls Tryz.prog 273 #[.pointer (some ⟨p,0,none⟩),.int .i64 (i:Int),.int .i64 (j:Int)] w (fun e w'=>e=.returned (.tuple #[])∧ChS w' p lv mv (iT L i j x y)∧Upd (fun k=>lv.ownBlock=some k) w w'):=by
 have hi2:=(gO.1 hi).1;have hj2:=(gO.1 hj).1;obtain⟨g,c,rfl,-,-,-,-,hc⟩:=aN h.2 (by omega);have hgp:¬g=p:=hne g rfl;have HU:=hIz (show Upd (fun k=>(Value.slice (some ⟨g,0,none⟩) L.length c).ownBlock=some k) w (((w.drew).setCell ⟨g,i,none⟩ (.int .i64 y)).setCell ⟨g,j,none⟩ (.int .i64 x)) from(((Upd.refl (fun k=>(Value.slice (some ⟨g,0,none⟩) L.length c).ownBlock=some k) w).drew).setCell (p:=⟨g,i,none⟩) (.inl rfl) _).setCell (p:=⟨g,j,none⟩) (.inl rfl) _);have HS:=hIz (show ChS (((w.drew).setCell ⟨g,i,none⟩ (.int .i64 y)).setCell ⟨g,j,none⟩ (.int .i64 x)) p (.slice (some ⟨g,0,none⟩) L.length c) mv (iT L i j x y) from by
  refine⟨h.1.upd HU.out (fun e=>hgp (by simpa[Value.ownBlock] using e)),?_⟩;have o1:=cC (cC (aB h.2 (Upd.refl (fun _=>False) w).drew (fun _ _=>id)) (i:=i) (by omega) (.int .i64 y)) (i:=j) (by omega) (.int .i64 x);rw[sI,sI] at o1;rw[lK];exact o1)
 have qi:=hc i _ (show(pO L)[i]?=some (.int .i64 x) by simp[pO,hi]);have qj:=hc j _ (show(pO L)[j]?=some (.int .i64 y) by simp[pO,hj]);have hS:(fun W:World=>W.cell? ⟨p,0,none⟩=some (.slice (some ⟨g,0,none⟩) L.length c)∧W.cell? ⟨g,i,none⟩=some (.int .i64 x)∧W.cell? ⟨g,j,none⟩=some (.int .i64 y)) w.drew:=⟨h.1.cell 0,qi.1,qj.1⟩;have c1:w.drew.cell? ⟨g,i,none⟩=some (.int .i64 x):=qi.1;have f1:w.drew.frozen? ⟨g,i,none⟩=false:=qi.2;have f2:(w.drew.setCell ⟨g,i,none⟩ (.int .i64 y)).frozen? ⟨g,j,none⟩=false:=by rw[World.frozen?_setCell];exact qj.2
 have c2:∃u,(w.drew.setCell ⟨g,i,none⟩ (.int .i64 y)).cell? ⟨g,j,none⟩=some u:=by
  have o1:=cC (aB h.2 (Upd.refl (fun _=>False) w).drew (fun _ _=>id)) (i:=i) (by omega) (.int .i64 y);rw[sI] at o1;obtain⟨g',c',e,-,-,-,-,hc'⟩:=aN o1 (by omega);injection e with e;injection e with e;injection e with e;subst e;obtain⟨z,hz⟩:∃z,(L.set i y)[j]?=some z:=⟨_,gEz (by simpa using hj2)⟩;exact⟨_,(hc' j _ (show(pO (L.set i y))[j]?=some (.int .i64 z) by unfold pO;rw[List.getElem?_map,hz];rfl)).1⟩
 obtain⟨u2,c2⟩:=c2;have z1:(i:Int)<(L.length:Int):=by omega
 have z2:(j:Int)<(L.length:Int):=by omega
 clear h hc hi hj qi qj hne hgp;generalize iT L i j x y=L2 at HS;generalize L.length=n at HU HS hS z1 z2 hi2 hj2 ⊢;go_enter Tryz.func273,Tryz.ntmps273;refine bE (fun W:World=>W.cell? ⟨p,0,none⟩=some (.slice (some ⟨g,0,none⟩) n c)∧W.cell? ⟨g,i,none⟩=some (.int .i64 x)∧W.cell? ⟨g,j,none⟩=some (.int .i64 y)) (aL 25) (by kernel_rfl) ?_;generalize w.drew=V0 at HU HS hS c1 f1 c2 f2 ⊢;intro hd;(refine aA 0 rfl hd hS ?_;clear hd;intro hd;(try simp only[Act.put,gA,gZ,sA,sZ,sS]))
 refine aA 1 rfl hd hS ?_;clear hd;intro hd;refine aA 2 rfl hd hS ?_;clear hd;intro hd;refine aA 3 rfl hd hS ?_;clear hd;intro hd;refine aA 4 rfl hd hS ?_;clear hd;intro hd;refine aA 5 rfl hd hS ?_;clear hd;intro hd;refine aA 6 rfl hd hS ?_;clear hd;intro hd;refine aA 7 rfl hd hS ?_;clear hd;intro hd;refine aA 8 rfl hd hS ?_;clear hd;intro hd;(refine aP (i:=9) (v:=?_) rfl (by kernel_rfl) hd (fun _ _ d _ _ h=>by cases d <;> exact h) (by first | with_reducible rfl | kernel_rfl) ?_ ?_;rotate_left;(focus (intro wS;go_simp;(try with_reducible rfl);done));clear hd;intro hd;(try simp only[Act.put,gA,gS,gZ,sA,sZ,sS]))
 refine aA 10 rfl hd hS ?_;clear hd;intro hd;refine aA 11 rfl hd hS ?_;clear hd;intro hd;refine aA 12 rfl hd hS ?_;clear hd;intro hd;refine aA 13 rfl hd hS ?_;clear hd;intro hd;refine aA 14 rfl hd hS ?_;clear hd;intro hd;refine aA 15 rfl hd hS ?_;clear hd;intro hd;refine aA 16 rfl hd hS ?_;clear hd;intro hd;refine aA 17 rfl hd hS ?_;clear hd;intro hd;refine aA 18 rfl hd hS ?_;clear hd;intro hd;refine aA 19 rfl hd hS ?_;clear hd;intro hd;refine aA 20 rfl hd hS ?_;clear hd;intro hd;refine aA 21 rfl hd hS ?_;clear hd;intro hd;refine aA 22 rfl hd hS ?_;clear hd;intro hd;refine aA 23 rfl hd hS ?_;clear hd;intro hd;refine aA 24 rfl hd hS ?_;clear hd;intro hd;refine aO hd 25 ?_;clear hd;intro hd;refine aS (S:=fun W:World=>W.cell? ⟨p,0,none⟩=some (.slice (some ⟨g,0,none⟩) n c)∧W.cell? ⟨g,i,none⟩=some (.int .i64 x)∧W.cell? ⟨g,j,none⟩=some (.int .i64 y)) (late:=aL 25) rfl rfl (fun K hK=>?_);go_simp;refine hK _ _ (fun h _=>absurd h (by decide)) ?_;clear hK K hS;(try simp only[Act.put,gA,gS,gZ,sA,sZ,sS])
 (refine aP (i:=26) (v:=?_) rfl (by kernel_rfl) hd (fun _ _ d _ _ h=>by cases d <;> exact h) (by first | with_reducible rfl | kernel_rfl) ?_ ?_;rotate_left;(focus (intro wS;go_simp;(try with_reducible rfl);done));clear hd;intro hd;(try simp only[Act.put,gA,gS,gZ,sA,sZ,sS]))
 refine aO hd 27 ?_;clear hd;intro hd;refine aS (S:=fun W:World=>W.cell? ⟨p,0,none⟩=some (.slice (some ⟨g,0,none⟩) n c)∧W.cell? ⟨g,i,none⟩=some (.int .i64 x)∧W.cell? ⟨g,j,none⟩=some (.int .i64 y)) (late:=aL 25) rfl rfl (fun K hK=>?_);go_simp;refine hK _ _ (fun h _=>absurd h (by decide)) ?_;clear hK K;(try simp only[Act.put,gA,gS,gZ,sA,sZ,sS])
 refine cL (by kernel_rfl) ?_;generalize (V0.setCell ⟨g,i,none⟩ (.int .i64 y)).setCell ⟨g,j,none⟩ (.int .i64 x)=WF at HU HS ⊢;go_wp2;exact bodyPost_end (results_none rfl _ _ _) rfl ⟨rfl,HS.out,HU.out⟩
def ChT(w:World)(p:Nat)(lv mv:Value)(C:List Int→Prop)(w':World):Prop:=
 ∃lv' L',ChS w' p lv' mv L'∧C L'∧Upd (fun k=>k=p∨lv.ownBlock=some k) w w'∧(∀k,lv'.ownBlock=some k→lv.ownBlock=some k∨w.heap.size≤k)∧∀k,lv'.ownBlock=some k→¬k=p
theorem EW:(Tryz.prog.info? 3).map (fun i=>(i.zero,i.size,i.bytes))=some (some (.int .i64 0),1,8):=by kernel_rfl
theorem AE(w:World)(p:Nat)(lv mv:Value)(L:List Int)(h:ChS w p lv mv L)(hne:∀k,lv.ownBlock=some k→¬k=p)(hl:L.length≤1000000)(x:Int) :
  Calls Tryz.prog 272 #[.pointer (some ⟨p,0,none⟩),.iface 3 (.int .i64 x)] w (fun e w'=>e=.returned (.tuple #[])∧ChT w p lv mv (fun L'=>L'=L++[x]) w'):=by
 have hS:w.drew.cell? ⟨p,0,none⟩=some lv:=h.1.cell 0;obtain⟨v2,W2,happ,own2,u2,p2⟩:=cI w.drew 0 42 3 1 8 _ Tryz.underlying42 EW rfl (by decide) lv L.length (pO L) (aB h.2 (Upd.refl (fun _=>False) w).drew (fun _ _=>id)) [.int .i64 x] 1 rfl (fun u hu=>by rw[List.mem_singleton.1 hu];rfl) (by omega) (by unfold maxLen;omega) (Nat.zero_le _);obtain⟨A2,c2,rfl,-,-⟩:=aK own2;have hb:Blk W2 p 154 #[lv,mv]:=(h.1.drew).upd u2 (fun e=>hne _ e rfl);have hvp:∀k,(Value.slice A2 (L.length+1) c2).ownBlock=some k→¬k=p:=fun k hk e=>by
  subst e;rcases p2 _ hk with h1|h1
  ·exact hne _ h1 rfl
  ·have:=h.1.lt;have:w.heap.size≤k:=h1;omega
 have FIN:=hIz (show ChT w p lv mv (fun L'=>L'=L++[x]) (W2.setCell ⟨p,0,none⟩ (.slice A2 (L.length+1) c2)) from by
  refine⟨.slice A2 (L.length+1) c2,L++[x],⟨hb.set 0 _,?_⟩,rfl,?_,p2,hvp⟩
  ·have:=aB own2 ((Upd.refl (fun k=>k=p) W2).setCell (p:=⟨p,0,none⟩) (.inl rfl) (.slice A2 (L.length+1) c2)) hvp;rw[show pO L++[.int .i64 x]=pO (L++[x]) by simp[pO]] at this;rw[List.length_append];exact this
  ·exact((((Upd.refl _ w).drew).trans (u2.mono (fun k _ hk=>.inr hk)) (fun k hk=>.inl hk))).setCell (p:=⟨p,0,none⟩) (.inl (.inl rfl)) _)
 have cc2:W2.cell? ⟨p,0,none⟩=some lv:=hb.cell 0;have f2:W2.frozen? ⟨p,0,none⟩=false:=hb.frozen 0;have ha:(w.drew.alloc (.cells #[.int .i64 x] 3)).cell? ⟨p,0,none⟩=some lv:=((h.1.drew).alloc _).cell 0;clear h hne own2 u2 p2 hb hvp;obtain⟨n1,hn1⟩:∃n1,L.length+1=n1:=⟨_,rfl⟩;rw[hn1] at FIN happ;clear hn1;go_enter Tryz.func272,Tryz.ntmps272;refine aF (fun W:World=>W.cell? ⟨p,0,none⟩=some lv) 11 [(0,true),(1,true),(2,true),(3,true),(4,true),(5,true),(6,false),(7,false),(8,false),(9,true),(10,true),(11,false)] hS ?_;generalize w.drew=V0 at hS happ ha ⊢
 iterate 6 refine aC rfl ?_
 refine aM rfl rfl (fun K hK=>?_);go_simp;refine hK _ _ (fun _=>hS) ?_;clear hK K;(try simp only[Act.put,gA,gS,gZ,sA,sZ,sS])
 refine aM rfl rfl (fun K hK=>?_);go_simp;refine hK _ _ (fun _=>ha) ?_;clear hK K;(try simp only[Act.put,gA,gS,gZ,sA,sZ,sS])
 refine aM rfl rfl (fun K hK=>?_);refine fE _ _ _ rfl rfl rfl happ ?_;refine hK _ _ (fun _=>cc2) ?_;clear hK K;(try simp only[Act.put,gA,gS,gZ,sA,sZ,sS])
 have hS:=cc2
 iterate 2 refine aC rfl ?_
 refine aM rfl rfl (fun K hK=>?_);go_simp;refine hK _ _ (fun h=>absurd rfl h) ?_;clear hK K;(try simp only[Act.put,gA,gS,gZ,sA,sZ,sS])
 refine aG ?_;generalize W2.setCell ⟨p,0,none⟩ (.slice A2 n1 c2)=WF at FIN ⊢;go_wp2;exact bodyPost_end (results_none rfl _ _ _) rfl ⟨rfl,FIN.out⟩
theorem EX(w:World)(p:Nat)(lv mv:Value)(L:List Int)(h:ChS w p lv mv L)(hne:∀k,lv.ownBlock=some k→¬k=p)(hl:L.length≤1000000)(L0:List Int)(x:Int)(hL:L=L0++[x]) :
  Calls Tryz.prog 271 #[.pointer (some ⟨p,0,none⟩)] w (fun e w'=>e=.returned (.iface 3 (.int .i64 x))∧ChT w p lv mv (fun L'=>L'=L0) w'):=by
 obtain⟨n,hn⟩:∃n,L0.length=n:=⟨_,rfl⟩;have hlen:L.length=n+1:=by rw[hL,List.length_append,hn];rfl
 obtain⟨g,c,rfl,-,hcn,-,-,hc⟩:=aN h.2 (by omega);have hgp:¬g=p:=hne g rfl;rw[hlen] at hcn;have q0:w.cell? ⟨p,0,none⟩=some (.slice (some ⟨g,0,none⟩) (n+1) c):=by rw[← hlen];exact h.1.cell 0
 have f0:w.frozen? ⟨p,0,none⟩=false:=h.1.frozen 0;have qx:w.cell? ⟨g,n,none⟩=some (.int .i64 x):=(hc n _ (by rw[hL];simp[pO,← hn])).1;have FIN:=hIz (show ChT w p (.slice (some ⟨g,0,none⟩) L.length c) mv (fun L'=>L'=L0) (w.setCell ⟨p,0,none⟩ (.slice (some ⟨g,0,none⟩) n c)) from by
  refine⟨.slice (some ⟨g,0,none⟩) n c,L0,⟨h.1.set 0 _,?_⟩,rfl,(Upd.refl _ w).setCell (p:=⟨p,0,none⟩) (.inl (.inl rfl)) _,fun k hk=>.inl hk,fun k hk=>hne k hk⟩;have o:=h.2;rw[hlen,hL] at o;have o2:=ownsRow_pop (n:=n) (xs:=pO L0) (last:=[.int .i64 x]) (size:=1) (by rw[KV,hn];omega) (by simpa[pO] using o);rw[hn];exact aB o2 ((Upd.refl (fun k=>k=p) w).setCell (p:=⟨p,0,none⟩) (.inl rfl) _) hne)
 have hw1:IntKind.i64.wrap (((n+1:Nat):Int)-1)=(n:Int):=by rw[IntWalk.i64_in (((n+1:Nat):Int)-1) (by omega)];omega
 have z1:(n:Int)<((n+1:Nat):Int):=by omega
 have z2:n≤c:=by omega
 have z3:n<n+1:=by omega
 have z4:n<1000000:=by omega
 clear h hc hL hlen hn hne hgp;go_enter Tryz.func271,Tryz.ntmps271;go_wp2;go_ret;exact⟨rfl,FIN.out⟩
open Go.RowKit Go.Shelf
def chV(p:Nat):Value:=.iface 151 (.pointer (some ⟨p,0,none⟩))
theorem RX(p n : Nat)(w : World) : (method (n + 1) 151 (.pointer (some ⟨p, 0, none⟩)) "Len").run Tryz.prog w = .ok (75, .pointer (some ⟨p, 0, none⟩)) w := by kernel_rfl
theorem uU(p n : Nat)(w : World) : (method (n + 1) 151 (.pointer (some ⟨p, 0, none⟩)) "Less").run Tryz.prog w = .ok (270, .pointer (some ⟨p, 0, none⟩)) w := by kernel_rfl
theorem uV(p n : Nat)(w : World) : (method (n + 1) 151 (.pointer (some ⟨p, 0, none⟩)) "Swap").run Tryz.prog w = .ok (273, .pointer (some ⟨p, 0, none⟩)) w := by kernel_rfl
theorem RY(p n : Nat)(w : World) : (method (n + 1) 151 (.pointer (some ⟨p, 0, none⟩)) "Push").run Tryz.prog w = .ok (272, .pointer (some ⟨p, 0, none⟩)) w := by kernel_rfl
theorem TQ(p n : Nat)(w : World) : (method (n + 1) 151 (.pointer (some ⟨p, 0, none⟩)) "Pop").run Tryz.prog w = .ok (271, .pointer (some ⟨p, 0, none⟩)) w := by kernel_rfl
theorem ChS.upd{w w':World}{p:Nat}{lv mv:Value}{L:List Int}{F:Nat→Prop}(h:ChS w p lv mv L)(hu:Upd F w w')(hp:¬F p)(hl:∀k,lv.ownBlock=some k→¬F k):ChS w' p lv mv L:=⟨h.1.upd hu hp,aB h.2 hu hl⟩
theorem ChS.below{w w':World}{p:Nat}{lv mv:Value}{L:List Int}(h:ChS w p lv mv L)(hb:Below w.heap.size w w'):ChS w' p lv mv L:=h.upd (upF hb) id (fun _ _=>id)
def uW(w:World)(p:Nat)(lv mv:Value)(L:List Int)(w':World):Prop:=∃L',L'.Perm L∧ChS w' p lv mv L'∧Upd (fun k=>lv.ownBlock=some k) w w'
theorem PF(w:World)(p:Nat)(lv mv:Value)(L:List Int)(h:ChS w p lv mv L)(hne:∀k,lv.ownBlock=some k→¬k=p)(hl:L.length≤1000000)(j:Nat)(hj:j<L.length) :
  Calls Tryz.prog 152 #[chV p,.int .i64 (j:Int)] w (fun e w'=>e=.returned (.tuple #[])∧uW w p lv mv L w'):=by
 obtain⟨n,hn⟩:∃n,L.length=n:=⟨_,rfl⟩;have H:=aI3 h hne hn;rw[hn] at hl hj;clear h hne hn;unfold chV;go_enter Tryz.func152,Tryz.ntmps152;go_wp2;go_loopw [1,4] (fun jv _ wr=>∃(k:Nat) (L1:List Int),k<n∧jv=.int .i64 (k:Int)∧Hid (L1.Perm L∧ChS wr p lv mv L1∧Upd (fun k=>lv.ownBlock=some k) w wr)) (fun jv _ _=>(intOf jv).toNat)
 case atStart=>exact⟨j,L,hj,rfl,hIz ⟨List.Perm.refl _,H.out.1,Upd.refl _ _⟩⟩
 case round =>
  obtain⟨k,L1,hk,rfl,hq⟩:=hrel;have hlen:Hid (L1.length=n):=hIz (by rw[hq.out.1.length_eq];exact H.out.2.2);by_cases h0:k=0
  ·subst h0;have FIN:=hIz (show uW w p lv mv L wr from⟨L1,hq.out⟩);clear hq hlen;have e1:IntKind.i64.wrap (((0:Nat):Int)-1) = -1:=by decide
   go_wp2;exact bodyPost_end (results_none rfl _ _ _) rfl ⟨rfl,FIN.out⟩
  ·obtain⟨q,hqd⟩:∃q,(k-1) / 2=q:=⟨_,rfl⟩;have e1:IntKind.i64.wrap ((k:Int)-1)=(k:Int)-1:=IntWalk.i64_in _ (by omega);have e2:((k:Int)-1).tdiv 2=(q:Int):=by
    rw[Int.tdiv_eq_ediv_of_nonneg (by omega)];omega
   have e4:((k:Int)-1) / 2=(q:Int):=by omega
   have e3:(((q:Int))==(k:Int))=false:=by simp;omega
   have hqk:q<k:=by omega
   clear hqd;obtain⟨x,hx⟩:∃x,L1[k]?=some x:=⟨_,gEz (by rw[hlen.out];exact hk)⟩;obtain⟨y,hy⟩:∃y,L1[q]?=some y:=⟨_,gEz (by rw[hlen.out];omega)⟩;have hle:=gT wr p lv mv L1 hq.out.2.1 k q x y hx hy;have hm1:=fun n=>uU p n wr
   have HX:=aI2 hx hy;clear hx hy;go_wp2_with fail;refine hle.mono ?_;clear hle hm1;rintro e V ⟨rfl,hb⟩;have H1:=aI2 (hq.out.2.1.below hb) (hq.out.2.2.trans (upF hb) (fun _ h=>h.elim));have hz:=hb.size;clear hb;by_cases hlt:x<y
   ·have hsw:=iA V p lv mv L1 H1.out.1 H.out.2.1 q k y x HX.out.2 HX.out.1;have hm1:=fun n=>uV p n V
    go_wp2_with fail;refine hsw.mono ?_;clear hsw hm1;rintro e V2 ⟨rfl,hs,hu⟩;have H2:=hIz (show(iT L1 q k y x).Perm L∧ChS V2 p lv mv (iT L1 q k y x)∧Upd (fun k=>lv.ownBlock=some k) w V2 from⟨(gY HX.out.2 HX.out.1).trans hq.out.1,hs,H1.out.2.trans hu (fun _ h=>.inl h)⟩);clear hs hu;go_wp2;go_roundw
    case rel=>exact⟨q,iT L1 q k y x,by omega,rfl,H2⟩
    case measure=>simp[intOf];omega
   ·have FIN:=hIz (show uW w p lv mv L V from⟨L1,hq.out.1,H1.out⟩);have hd:decide (x<y)=false:=by simpa using hlt
    have hle':y≤x:=by omega
    go_wp2;exact bodyPost_end (results_none rfl _ _ _) rfl ⟨rfl,FIN.out⟩
theorem EY(w:World)(p:Nat)(lv mv:Value)(L:List Int)(h:ChS w p lv mv L)(hne:∀k,lv.ownBlock=some k→¬k=p)(hl:L.length≤1000000)(m:Nat)(hm:m<L.length) :
  Calls Tryz.prog 89 #[chV p,.int .i64 0,.int .i64 (m:Int)] w (fun e w'=>(∃b,e=.returned (.bool b))∧uW w p lv mv L w'):=by
 obtain⟨n,hn⟩:∃n,L.length=n:=⟨_,rfl⟩;have H:=aI3 h hne hn;rw[hn] at hl hm;clear h hne hn;unfold chV;go_enter Tryz.func89,Tryz.ntmps89;go_wp2;go_loopw [7] (fun iv wr=>∃(k:Nat) (L1:List Int),k≤n∧iv=.int .i64 (k:Int)∧Hid (L1.Perm L∧ChS wr p lv mv L1∧Upd (fun k=>lv.ownBlock=some k) w wr)) (fun iv _=>n-(intOf iv).toNat)
 case atStart=>exact⟨0,L,by omega,rfl,hIz ⟨List.Perm.refl _,H.out.1,Upd.refl _ _⟩⟩
 case round =>
  obtain⟨k,L1,hk,rfl,hq⟩:=hrel;have hlen:Hid (L1.length=n):=hIz (by rw[hq.out.1.length_eq];exact H.out.2.2);have e1:IntKind.i64.wrap (2*(k:Int))=2*(k:Int):=IntWalk.i64_in _ (by omega);have e2:IntKind.i64.wrap (2*(k:Int)+1)=2*(k:Int)+1:=IntWalk.i64_in _ (by omega);by_cases h0:2*k+1<m
  ·have h0':2*(k:Int)+1<(m:Int):=by omega
   obtain⟨j1,hj1⟩:∃j1,2*k+1=j1:=⟨_,rfl⟩;have e3:2*(k:Int)+1=(j1:Int):=by omega
   have e4:IntKind.i64.wrap ((j1:Int)+1)=(j1:Int)+1:=IntWalk.i64_in _ (by omega);have hkn:k<n:=by omega
   obtain⟨x,hx⟩:∃x,L1[k]?=some x:=⟨_,gEz (by rw[hlen.out];omega)⟩;obtain⟨xj1,hj1x⟩:∃x,L1[j1]?=some x:=⟨_,gEz (by rw[hlen.out];omega)⟩;have hkj:k<j1:=by omega
   have hjm:(j1:Int)<(m:Int):=by omega
   have hjm2:j1<m:=by omega
   have hj0:¬((j1:Int)<0):=by omega
   have H0:=hIz (show ChS wr p lv mv L1∧Upd (fun k=>lv.ownBlock=some k) w wr from hq.out.2);clear hj1 h0 h0';by_cases h2:j1+1<m
   ·obtain⟨j2,hj2⟩:∃j2,j1+1=j2:=⟨_,rfl⟩;have e5:(j1:Int)+1=(j2:Int):=by omega
    have h2':(j2:Int)<(m:Int):=by omega
    have h2m:j2<m:=by omega
    have hkj2:k<j2:=by omega
    clear hj2 h2;obtain⟨xj2,hj2x⟩:∃x,L1[j2]?=some x:=⟨_,gEz (by rw[hlen.out];omega)⟩;have hle:=gT wr p lv mv L1 hq.out.2.1 j2 j1 xj2 xj1 hj2x hj1x;have hm1:=fun n=>uU p n wr
    have HY:=aI3 hx hj1x hj2x;clear hx hj1x hj2x;go_wp2_with fail;refine hle.mono ?_;clear hle hm1;rintro e W0 ⟨rfl,hb⟩;have H1:=aI2 (H0.out.1.below hb) (H0.out.2.trans (upF hb) (fun _ h=>h.elim));clear hb;by_cases hl2:xj2<xj1
    ·have hx:=HY.out.1;have hj2:=HY.out.2.2;have hle:=gT W0 p lv mv L1 H1.out.1 j2 k xj2 x hj2 hx;have hm1:=fun n=>uU p n W0
     have HX:=aI2 hj2 hx;clear hj2 hx;go_wp2_with fail;refine hle.mono ?_;clear hle hm1;rintro e W1 ⟨rfl,hb⟩;have H5:=aI2 (H1.out.1.below hb) (H1.out.2.trans (upF hb) (fun _ h=>h.elim));clear hb;by_cases hlt:xj2<x
     ·have hsw:=iA W1 p lv mv L1 H5.out.1 H.out.2.1 k j2 x xj2 HX.out.2 HX.out.1;have hm1:=fun n=>uV p n W1
      go_wp2_with fail;refine hsw.mono ?_;clear hsw hm1;rintro e V9 ⟨rfl,hs,hu⟩;have H6:=hIz (show(iT L1 k j2 x xj2).Perm L∧ChS V9 p lv mv (iT L1 k j2 x xj2)∧Upd (fun k=>lv.ownBlock=some k) w V9 from⟨(gY HX.out.2 HX.out.1).trans hq.out.1,hs,H5.out.2.trans hu (fun _ h=>.inl h)⟩);clear hs hu;go_wp2;go_roundw
      case rel=>exact⟨j2,iT L1 k j2 x xj2,by omega,rfl,H6⟩
      case measure=>simp[intOf];omega
     ·have FIN:=hIz (show uW w p lv mv L W1 from⟨L1,hq.out.1,H5.out⟩);have hd:decide (xj2<x)=false:=by simpa using hlt
      have hle':x≤xj2:=by omega
      clear hq hlen H5;go_wp2;go_ret;exact⟨⟨_,rfl⟩,FIN.out⟩
    ·have hx:=HY.out.1;have hj1:=HY.out.2.1;have hd2:decide (xj2<xj1)=false:=by simpa using hl2
     have hle2:xj1≤xj2:=by omega
     have hle:=gT W0 p lv mv L1 H1.out.1 j1 k xj1 x hj1 hx;have hm1:=fun n=>uU p n W0
     have HX:=aI2 hj1 hx;clear hj1 hx;go_wp2_with fail;refine hle.mono ?_;clear hle hm1;rintro e W1 ⟨rfl,hb⟩;have H5:=aI2 (H1.out.1.below hb) (H1.out.2.trans (upF hb) (fun _ h=>h.elim));clear hb;by_cases hlt:xj1<x
     ·have hsw:=iA W1 p lv mv L1 H5.out.1 H.out.2.1 k j1 x xj1 HX.out.2 HX.out.1;have hm1:=fun n=>uV p n W1
      go_wp2_with fail;refine hsw.mono ?_;clear hsw hm1;rintro e V9 ⟨rfl,hs,hu⟩;have H6:=hIz (show(iT L1 k j1 x xj1).Perm L∧ChS V9 p lv mv (iT L1 k j1 x xj1)∧Upd (fun k=>lv.ownBlock=some k) w V9 from⟨(gY HX.out.2 HX.out.1).trans hq.out.1,hs,H5.out.2.trans hu (fun _ h=>.inl h)⟩);clear hs hu;go_wp2;go_roundw
      case rel=>exact⟨j1,iT L1 k j1 x xj1,by omega,rfl,H6⟩
      case measure=>simp[intOf];omega
     ·have FIN:=hIz (show uW w p lv mv L W1 from⟨L1,hq.out.1,H5.out⟩);have hd:decide (xj1<x)=false:=by simpa using hlt
      have hle':x≤xj1:=by omega
      clear hq hlen H5;go_wp2;go_ret;exact⟨⟨_,rfl⟩,FIN.out⟩
   ·have h2':(m:Int)≤(j1:Int)+1:=by omega
    have h2n:¬((j1:Int)+1<(m:Int)):=by omega
    have hj1:=hj1x;clear hj1x;have hle:=gT wr p lv mv L1 H0.out.1 j1 k xj1 x hj1 hx;have hm1:=fun n=>uU p n wr
    have HX:=aI2 hj1 hx;clear hj1 hx;go_wp2_with fail;refine hle.mono ?_;clear hle hm1;rintro e W1 ⟨rfl,hb⟩;have H5:=aI2 (H0.out.1.below hb) (H0.out.2.trans (upF hb) (fun _ h=>h.elim));clear hb;by_cases hlt:xj1<x
    ·have hsw:=iA W1 p lv mv L1 H5.out.1 H.out.2.1 k j1 x xj1 HX.out.2 HX.out.1;have hm1:=fun n=>uV p n W1
     go_wp2_with fail;refine hsw.mono ?_;clear hsw hm1;rintro e V9 ⟨rfl,hs,hu⟩;have H6:=hIz (show(iT L1 k j1 x xj1).Perm L∧ChS V9 p lv mv (iT L1 k j1 x xj1)∧Upd (fun k=>lv.ownBlock=some k) w V9 from⟨(gY HX.out.2 HX.out.1).trans hq.out.1,hs,H5.out.2.trans hu (fun _ h=>.inl h)⟩);clear hs hu;go_wp2;go_roundw
     case rel=>exact⟨j1,iT L1 k j1 x xj1,by omega,rfl,H6⟩
     case measure=>simp[intOf];omega
    ·have FIN:=hIz (show uW w p lv mv L W1 from⟨L1,hq.out.1,H5.out⟩);have hd:decide (xj1<x)=false:=by simpa using hlt
     have hle':x≤xj1:=by omega
     clear hq hlen H5;go_wp2;go_ret;exact⟨⟨_,rfl⟩,FIN.out⟩
  ·have h0':(m:Int)≤2*(k:Int)+1:=by omega
   have FIN:=hIz (show uW w p lv mv L wr from⟨L1,hq.out⟩);clear hq hlen;go_wp2;go_ret;exact⟨⟨_,rfl⟩,FIN.out⟩
open Go.RowKit Go.Shelf
theorem ChT.after{w w1 w':World}{p:Nat}{lv mv:Value}{C:List Int→Prop}(h:ChT w1 p lv mv C w')(hb:Upd (fun k=>k=p∨lv.ownBlock=some k) w w1):ChT w p lv mv C w':=by
 obtain⟨lv',L',h1,h2,h3,h4,h5⟩:=h;exact⟨lv',L',h1,h2,hb.trans h3 (fun k hk=>.inl hk),fun k hk=>(h4 k hk).imp id (fun h=>Nat.le_trans hb.size h),h5⟩
theorem EZ(w:World)(p:Nat)(lv mv:Value)(L:List Int)(h:ChS w p lv mv L)(hne:∀k,lv.ownBlock=some k→¬k=p)(hl:L.length≤999999)(x:Int) :
  Calls Tryz.prog 113 #[chV p,.iface 3 (.int .i64 x)] w (fun e w'=>e=.returned (.tuple #[])∧ChT w p lv mv (fun L'=>L'.Perm (x::L)) w'):=by
 have hpu:=AE w p lv mv L h hne (by omega) x;have hm1:=fun n=>RY p n w
 have HL:=hIz hl;clear h hne hl;unfold chV;go_enter Tryz.func113,Tryz.ntmps113;go_wp2_with fail;refine hpu.mono ?_;clear hpu hm1;rintro e W1 ⟨rfl,lv1,L1,h1,hL1,hu1,ho1,hn1⟩;obtain⟨n,hn⟩:∃n,L.length=n:=⟨_,rfl⟩;have hl2:L1.length=n+1:=by rw[hL1,List.length_append,hn];rfl
 have hlen:=oM W1 p lv1 mv _ h1;rw[hl2] at hlen;have hm1:=fun n=>RX p n W1
 have hn9:n≤999999:=by have:=HL.out;omega
 have hup:=PF W1 p lv1 mv _ h1 hn1 (by omega) n (by omega);unfold chV at hup;have H1:=aI4 hu1 ho1 hn1 hL1;clear h1 hu1 ho1 hn1 hL1 hl2 hn HL;go_wp2_with fail;refine hlen.mono ?_;clear hlen hm1;rintro e W2 ⟨rfl,hw⟩;subst W2;have e1:IntKind.i64.wrap (((n+1:Nat):Int)-1)=(n:Int):=by
  rw[IntWalk.i64_in (((n+1:Nat):Int)-1) (by omega)];omega
 go_wp2_with fail;refine hup.mono ?_;clear hup;rintro e W3 ⟨rfl,L3,hp3,hs3,hu3⟩;have FIN:=hIz (show ChT w p lv mv (fun L'=>L'.Perm (x::L)) W3 from⟨lv1,L3,hs3,hp3.trans (by rw[H1.out.2.2.2];exact List.perm_append_singleton x L),H1.out.1.trans hu3 (fun k hk=>(H1.out.2.1 k hk).imp (fun h=>.inr h) id),H1.out.2.1,H1.out.2.2.1⟩);clear hp3 hs3 hu3;go_wp2;exact bodyPost_end (results_none rfl _ _ _) rfl ⟨rfl,FIN.out⟩
def RZ(w:World)(p:Nat)(lv mv:Value)(L:List Int)(e:Ending)(w':World):Prop:=∃x,e=.returned (.iface 3 (.int .i64 x))∧ChT w p lv mv (fun L'=>L.Perm (x::L')) w'
theorem KW(w:World)(p:Nat)(lv mv:Value)(L:List Int)(h:ChS w p lv mv L)(hne:∀k,lv.ownBlock=some k→¬k=p)(hl:L.length≤999999)(h0:0<L.length) :
  Calls Tryz.prog 55 #[chV p] w (RZ w p lv mv L):=by
 have hlen:=oM w p lv mv L h;have hm1:=fun n=>RX p n w
 obtain⟨n,hn⟩:∃n,L.length=n+1:=⟨L.length-1,by omega⟩;have hnl:n≤999999:=by omega
 have H:=aI3 h hne hn;rw[hn] at hlen;clear h hne hl h0 hn;unfold chV;go_enter Tryz.func55,Tryz.ntmps55;go_wp2_with fail;refine hlen.mono ?_;clear hlen hm1;rintro e W2 ⟨rfl,hw⟩;subst W2;have e1:IntKind.i64.wrap (((n+1:Nat):Int)-1)=(n:Int):=by
  rw[IntWalk.i64_in (((n+1:Nat):Int)-1) (by omega)];omega
 obtain⟨a,ha⟩:∃x,L[0]?=some x:=⟨_,gEz (by rw[H.out.2.2];omega)⟩;obtain⟨b,hb⟩:∃x,L[n]?=some x:=⟨_,gEz (by rw[H.out.2.2];omega)⟩;have hsw:=iA w p lv mv L H.out.1 H.out.2.1 0 n a b ha hb;have hperm:=hIz (gY ha hb);have hm1:=fun n=>uV p n w
 clear ha hb;go_wp2_with fail;refine hsw.mono ?_;clear hsw hm1;rintro e W3 ⟨rfl,hs3,hu3⟩;have hdn:=EY W3 p lv mv _ hs3 H.out.2.1 (by rw[lK,H.out.2.2];omega) n (by rw[lK,H.out.2.2];omega);unfold chV at hdn;have H3:=hIz (hu3.mono (F':=fun k=>k=p∨lv.ownBlock=some k) (fun k _ h=>.inr h));clear hs3 hu3;go_wp2_with fail;refine hdn.mono ?_;clear hdn;rintro e W4 ⟨⟨bb,rfl⟩,L4,hp4,hs4,hu4⟩;have hL4:L4.length=n+1:=by rw[hp4.length_eq,lK,H.out.2.2]
 have hne4:L4≠[]:=fun e=>by rw[e] at hL4;cases hL4
 have hpp:=EX W4 p lv mv L4 hs4 H.out.2.1 (by omega) L4.dropLast (L4.getLast hne4) (List.dropLast_concat_getLast hne4).symm;have H4:=aI2 (show L.Perm (L4.getLast hne4::L4.dropLast) from by
  refine(hp4.trans hperm.out).symm.trans ?_;have:=(List.perm_append_singleton (L4.getLast hne4) L4.dropLast);rwa [List.dropLast_concat_getLast hne4] at this) (H3.out.trans hu4 (fun k hk=>.inl (.inr hk)))
 generalize L4.getLast hne4=x at hpp H4;generalize L4.dropLast=L5 at hpp H4;have hm1:=fun n=>TQ p n W4
 clear hp4 hs4 hu4 hL4 hne4;go_wp2_with fail;refine hpp.mono ?_;clear hpp hm1;rintro e W5 ⟨rfl,ht⟩;have FIN:=hIz (show RZ w p lv mv L (.returned (.iface 3 (.int .i64 x))) W5 from⟨x,rfl,by
  obtain⟨lv',L',h1,h2,h3⟩:=ht.after H4.out.2;exact⟨lv',L',h1,by rw[h2];exact H4.out.1,h3⟩⟩)
 clear ht;go_wp2;go_ret;exact FIN.out
open Go.RowKit Go.Shelf
def mkC(nts:Nat)(L:List Int):List Value:=(List.range nts).map (fun (k:Nat)=>Value.bool (decide ((k:Int)∈L)))
theorem uX{nts k:Nat}{L:List Int}(h:k<nts):(mkC nts L)[k]?=some (.bool (decide ((k:Int)∈L))):=by simp[mkC,h]
theorem FA{nts k:Nat}{L L':List Int}(b:Bool)(h:∀y:Int,y≠(k:Int)→(y∈L'↔y∈L))(hk:decide ((k:Int)∈L')=b):(mkC nts L).set k (.bool b)=mkC nts L':=by
 apply List.ext_getElem?
 intro i;rw[List.getElem?_set];by_cases hi:k=i
 ·subst hi;rw[if_pos rfl];by_cases hl:k<nts
  ·rw[if_pos (by simpa[mkC] using hl),uX hl,hk]
  ·rw[if_neg (by simpa[mkC] using hl)];simp[mkC,hl]
 ·rw[if_neg hi];by_cases hl:i<nts
  ·rw[uX hl,uX hl,decide_eq_decide.2 (h (i:Int) (by omega))]
  ·simp[mkC,hl]
theorem PG:∀(nts:Nat) (L:List Int),L.Nodup→(∀x∈L,0≤x∧x<(nts:Int))→L.length≤nts
 | 0,L,_,h=>by
  cases L with
  | nil=>exact Nat.le_refl _
  | cons x l=>have:=h x (List.mem_cons_self ..);omega
 | n+1,L,hn,h=>by
  by_cases hm:(n:Int)∈L
  ·have h1:=PG n (L.erase (n:Int)) (hn.erase _) (fun x hx=>by
    have h2:=(hn.mem_erase_iff).1 hx;have:=h x h2.2;have:x≠(n:Int):=h2.1;omega)
   have h2:=List.length_erase_of_mem hm;have h3:0<L.length:=List.length_pos_of_mem hm;omega
  ·have:=PG n L hn (fun x hx=>by
    have h2:=h x hx;have:x≠(n:Int):=fun e=>hm (e ▸ hx)
    omega)
   omega
structure WkI(w:World)(p m nts:Nat)(lv:Value)(L:List Int):Prop where
 ch:ChS w p lv (.slice (some ⟨m,0,none⟩) nts nts) L
 mks:Blk w m 4 (mkC nts L).toArray
 np:∀k,lv.ownBlock=some k→¬k=p
 nm:∀k,lv.ownBlock=some k→¬k=m
 ne:¬m=p
 inL:∀x∈L,0≤x∧x<(nts:Int)
 nd:L.Nodup
theorem WkI.len{w:World}{p m nts:Nat}{lv:Value}{L:List Int}(h:WkI w p m nts lv L):L.length≤nts:=PG nts L h.nd h.inL
theorem WkI.upd{w w':World}{p m nts:Nat}{lv:Value}{L:List Int}{F:Nat→Prop}(h:WkI w p m nts lv L)(hu:Upd F w w')(hp:¬F p)(hm:¬F m)(hl:∀k,lv.ownBlock=some k→¬F k):WkI w' p m nts lv L:=
 ⟨h.ch.upd hu hp hl,h.mks.upd hu hm,h.np,h.nm,h.ne,h.inL,h.nd⟩
def WkF(p m:Nat)(lv:Value)(k:Nat):Prop:=k=p∨k=m∨lv.ownBlock=some k
def WkT(w:World)(p m nts:Nat)(lv:Value)(C:List Int→Prop)(w':World):Prop:=
 ∃lv' L',WkI w' p m nts lv' L'∧C L'∧Upd (WkF p m lv) w w'∧∀k,lv'.ownBlock=some k→lv.ownBlock=some k∨w.heap.size≤k
theorem sJ(w:World)(p m nts:Nat)(lv:Value)(L:List Int)(h:WkI w p m nts lv L)(hnt:nts≤512)(k:Nat)(hk:k<nts) :
  Calls Tryz.prog 73 #[.pointer (some ⟨p,0,none⟩),.int .i64 (k:Int)] w (fun e w'=>e=.returned (.tuple #[])∧WkT w p m nts lv (fun L'=>PB L L' (k:Int)) w'):=by
 have q1:w.cell? ⟨p,1,none⟩=some (.slice (some ⟨m,0,none⟩) nts nts):=h.ch.1.cell 1;have qm:w.cell? ⟨m,k,none⟩=some (.bool (decide ((k:Int)∈L))):=by rw[h.mks.cell k];simpa using uX hk
 have fm:w.frozen? ⟨m,k,none⟩=false:=h.mks.frozen k;have hkI:(k:Int)<(nts:Int):=by omega
 by_cases hin:(k:Int)∈L
 ·rw[decide_eq_true hin] at qm;have FIN:=hIz (show WkT w p m nts lv (fun L'=>PB L L' (k:Int)) w from⟨lv,L,h,⟨fun y=>⟨.inl,fun hy=>hy.elim id (fun e=>e ▸ hin)⟩,h.nd,by omega⟩,Upd.refl _ _,fun _ hk=>.inl hk⟩);clear h hin;go_enter Tryz.func73,Tryz.ntmps73;go_wp2;exact bodyPost_end (results_none rfl _ _ _) rfl ⟨rfl,FIN.out⟩
 ·rw[decide_eq_false hin] at qm;have us:=(Upd.refl (fun q=>q=m) w).setCell (p:=⟨m,k,none⟩) (.inl rfl) (.bool true);have hc1:=h.ch.upd us (fun e=>h.ne e.symm) h.nm;have hlen:=h.len;have hpu:=EZ _ p lv _ L hc1 h.np (by omega) (k:Int);have hmk:Blk (w.setCell ⟨m,k,none⟩ (.bool true)) m 4 ((mkC nts L).toArray.setIfInBounds k (.bool true)):=h.mks.set k (.bool true);have H:=aI4 h us hmk hin;unfold chV at hpu;clear h us hc1 hmk hin;go_enter Tryz.func73,Tryz.ntmps73;go_wp2_with fail;refine hpu.mono ?_;clear hpu;rintro e W1 ⟨rfl,lv1,L1,h1,hp1,hu1,ho1,hn1⟩;have FIN:=hIz (show WkT w p m nts lv (fun L'=>PB L L' (k:Int)) W1 from by
   have h0:=H.out.1;have hz:=H.out.2.1.size;have hmem:∀y,y∈L1↔y=(k:Int)∨y∈L:=fun y=>by rw[hp1.mem_iff,List.mem_cons]
   have hmk2:=H.out.2.2.1.upd hu1 (fun e=>e.elim (fun e=>h0.ne e) (fun e=>h0.nm _ e rfl));have ems:(mkC nts L).toArray.setIfInBounds k (.bool true)=(mkC nts L1).toArray:=by
    rw[List.setIfInBounds_toArray,FA true (L':=L1) (fun y hy=>by rw[hmem];exact⟨fun h=>h.resolve_left hy,.inr⟩) (decide_eq_true ((hmem _).2 (.inl rfl)))]
   rw[ems] at hmk2;refine⟨lv1,L1,⟨h1,hmk2,hn1,fun q hq e=>?_,h0.ne,fun x hx=>?_,hp1.nodup_iff.2 (List.nodup_cons.2 ⟨H.out.2.2.2,h0.nd⟩)⟩,⟨fun y=>by rw[hmem];exact or_comm,hp1.nodup_iff.2 (List.nodup_cons.2 ⟨H.out.2.2.2,h0.nd⟩),by rw[hp1.length_eq];exact Nat.le_refl _⟩,?_,fun q hq=>(ho1 q hq).imp id (fun h=>Nat.le_trans hz h)⟩
   ·rcases ho1 q hq with h2|h2
    ·exact h0.nm q h2 e
    ·have:=h0.mks.lt;subst e;omega
   ·rcases (hmem x).1 hx with h2|h2
    ·subst h2;exact⟨by omega,hkI⟩
    ·exact h0.inL x h2
   ·exact(H.out.2.1.mono (F':=WkF p m lv) (fun q _ e=>.inr (.inl e))).trans hu1 (fun q hq=>.inl (hq.imp id .inr)))
  clear h1 hp1 hu1 ho1 hn1;go_wp2;exact bodyPost_end (results_none rfl _ _ _) rfl ⟨rfl,FIN.out⟩
open Go.RowKit Go.Shelf
inductive CRo
 | x | row | mat (k:Nat)
def ptC(ad:Nat→Nat)(nts:Nat):List Value:=(List.range nts).map (fun (k:Nat)=>Value.pointer (some ⟨ad k,0,none⟩))
theorem qL{ad:Nat→Nat}{nts k:Nat}(h:k<nts):(ptC ad nts)[k]?=some (.pointer (some ⟨ad k,0,none⟩)):=by simp[ptC,h]
structure ClI(w:World)(O:Nat→Option CRo)(p side nodes nts:Nat)(pv:Value)(ad:Nat→Nat)(B:eG):Prop where
 blk:Blk w p 109 #[.int .i64 (nodes:Int),pv]
 rows:w.ownsRow 0 110 1 pv nts (ptC ad nts)
 op:O p=some .x
 orow:∀k,pv.ownBlock=some k→O k=some .row
 mats:∀k,k<nts→∃F,QuS w F (ad k) side (B k)∧∀q,F q→O q=some (.mat k)
 lt:∀q,O q≠none→q<w.heap.size
def ClS(w:World)(F:Nat→Prop)(p side nodes nts:Nat)(B:eG):Prop:=∃O pv ad,ClI w O p side nodes nts pv ad B∧F=fun q=>O q≠none
theorem ClI.upd{w w':World}{O:Nat→Option CRo}{p side nodes nts:Nat}{pv:Value}{ad:Nat→Nat}{B:eG}{G:Nat→Prop}(h:ClI w O p side nodes nts pv ad B)(hu:Upd G w w')(hd:∀q,O q≠none→¬G q):ClI w' O p side nodes nts pv ad B:=by
 have no:∀k t,O k=some t→¬G k:=fun k t e=>hd k (by simp[e])
 exact⟨h.blk.upd hu (no _ _ h.op),aB h.rows hu fun k hk=>no _ _ (h.orow k hk),h.op,h.orow,fun k hk=>by
  obtain⟨F,h1,h2⟩:=h.mats k hk;exact⟨F,h1.upd hu (fun q hq=>no _ _ (h2 q hq)),h2⟩,fun q hq=>Nat.lt_of_lt_of_le (h.lt q hq) hu.size⟩
theorem ClS.upd{w w':World}{F G:Nat→Prop}{p side nodes nts:Nat}{B:eG}(h:ClS w F p side nodes nts B)(hu:Upd G w w')(hd:∀k,F k→¬G k):ClS w' F p side nodes nts B:=by
 obtain⟨O,pv,ad,hi,rfl⟩:=h;exact⟨O,pv,ad,hi.upd hu hd,rfl⟩
theorem ClS.below{w w':World}{F:Nat→Prop}{p side nodes nts:Nat}{B:eG}(h:ClS w F p side nodes nts B)(hb:Below w.heap.size w w'):ClS w' F p side nodes nts B:=h.upd (upF hb) (fun _ _=>id)
theorem ClS.lt{w:World}{F:Nat→Prop}{p side nodes nts:Nat}{B:eG}(h:ClS w F p side nodes nts B):∀k,F k→k<w.heap.size:=by
 obtain⟨O,pv,ad,hi,rfl⟩:=h;exact hi.lt
def vQ(w:World)(F:Nat→Prop)(p side nodes nts:Nat)(B:eG)(w':World):Prop:=∃F',ClS w' F' p side nodes nts B∧Upd F w w'∧∀k,F' k→F k∨w.heap.size≤k
theorem vQ.after{w w1 w':World}{F:Nat→Prop}{p side nodes nts:Nat}{B:eG}(hb:Below w.heap.size w w1)(h:vQ w1 F p side nodes nts B w'):vQ w F p side nodes nts B w':=by
 obtain⟨F',h1,h2,h3⟩:=h;exact⟨F',h1,(Upd.of_below hb F).trans h2 (fun _ h=>.inl h),fun k hk=>(h3 k hk).imp id (fun h=>Nat.le_trans hb.size h)⟩
theorem ClI.turn{w w':World}{O:Nat→Option CRo}{p side nodes nts:Nat}{pv:Value}{ad:Nat→Nat}{B:eG}(h:ClI w O p side nodes nts pv ad B){a:Nat}{Fa:Nat→Prop}{m:Option (List Nat)}(hFa:∀q,Fa q→O q=some (.mat a))(ht:QTo w Fa (ad a) side m w') :
  vQ w (fun q=>O q≠none) p side nodes nts (upM B a m) w':=by
 obtain⟨F',hq,hu,hn⟩:=ht;have ho:∀q,Fa q→O q≠none:=fun q hq e=>by rw[hFa q hq] at e;cases e
 have hlt:=hq.lt;refine⟨_,⟨fun q=>if q<w.heap.size then O q else if q<w'.heap.size then some (.mat a) else none,pv,ad,⟨?_,?_,?_,?_,?_,?_⟩,rfl⟩,hu.mono (fun q _ hq=>ho q hq),fun k hk=>?_⟩
 ·exact h.blk.upd hu (fun e=>by have:=hFa _ e;rw[h.op] at this;cases this)
 ·exact aB h.rows hu (fun k hk e=>by have:=hFa _ e;rw[h.orow k hk] at this;cases this)
 ·show(if p<w.heap.size then O p else _)=_
  rw[if_pos h.blk.lt];exact h.op
 ·intro k hk;show(if k<w.heap.size then O k else _)=_
  have:=h.orow k hk;rw[if_pos (h.lt k (by rw[this];exact nofun))];exact this
 ·intro k hk;by_cases e:k=a
  ·subst e;rw[gU];refine⟨F',hq,fun q hf=>?_⟩;show(if q<w.heap.size then O q else if q<w'.heap.size then some (.mat k) else none)=_
   by_cases hl:q<w.heap.size
   ·rw[if_pos hl];rcases hn q hf with h1|h1
    ·exact hFa q h1
    ·omega
   ·rw[if_neg hl,if_pos (hlt q hf)]
  ·rw[lJ B m e];obtain⟨F,h1,h2⟩:=h.mats k hk;refine⟨F,h1.upd hu (fun q hf hf'=>?_),fun q hf=>?_⟩
   ·have e1:=h2 q hf;rw[hFa q hf'] at e1;injection e1 with e1;injection e1 with e1;exact e e1.symm
   ·show(if q<w.heap.size then O q else _)=_
    rw[if_pos (h1.lt q hf)];exact h2 q hf
 ·intro q hq;by_cases hl:q<w.heap.size
  ·exact Nat.lt_of_lt_of_le hl hu.size
  ·by_cases hl2:q<w'.heap.size
   ·exact hl2
   ·rw[if_neg hl,if_neg hl2] at hq;exact absurd rfl hq
 ·by_cases hl:k<w.heap.size
  ·have hk:(if k<w.heap.size then O k else _)≠none:=hk;rw[if_pos hl] at hk;exact .inl hk
  ·exact .inr (by omega)
theorem KX(w:World)(F:Nat→Prop)(p side nodes nts:Nat)(B:eG)(h:ClS w F p side nodes nts B)(a b c:Nat)(la lb:Bool)(A:Option Addr)(cap:Nat)(hr:aX w A (dU [⟨la,b⟩,⟨lb,c⟩]))
  (ha:a<nts) (hb:b<nts) (hc:c<nts) (hnt:nts≤512) (hs64:side≤64) (hT:qF w) (htab:1<w.heap.size)
  (hfit:∀x y,B b=some x→B c=some y→cM (lZ x y) side=lZ x y) :
  Calls Tryz.prog 74 #[.pointer (some ⟨p,0,none⟩),.agg #[.int .i64 (a:Int),.slice A 2 cap]] w (fun e w'=>e=.returned (.bool (dG (B a) (mulO (B b) (B c))))∧vQ w F p side nodes nts (upM B a (joinQ (B a) (mulO (B b) (B c)))) w'):=by
 obtain⟨O,pv,ad,hi,rfl⟩:=h;obtain⟨g,gc,rfl,-,-,-,-,-⟩:=aN hi.rows (by omega);obtain⟨gb,go,rfl,-⟩:=hr 0 (.bool la) rfl;have b1:Below w.heap.size w (w.alloc (.cells #[.int .i64 (a:Int),.slice (some ⟨gb,go,none⟩) 2 cap] 71)):=bR.alloc (Nat.le_refl _) _;have k1:=Blk.new w 71 #[.int .i64 (a:Int),.slice (some ⟨gb,go,none⟩) 2 cap];have hi1:=hi.upd (upF b1) (fun _ _=>id);have hr1:=hr.below3 b1;have SF:∀W,Below (w.alloc (.cells #[.int .i64 (a:Int),.slice (some ⟨gb,go,none⟩) 2 cap] 71)).heap.size (w.alloc (.cells #[.int .i64 (a:Int),.slice (some ⟨gb,go,none⟩) 2 cap] 71)) W →
   W.cell? ⟨p,1,none⟩=some (.slice (some ⟨g,0,none⟩) nts gc)∧W.cell? ⟨w.heap.size,0,none⟩=some (.int .i64 (a:Int))∧W.cell? ⟨w.heap.size,1,none⟩=some (.slice (some ⟨gb,go,none⟩) 2 cap) ∧
   W.cell? ⟨gb,go+1,none⟩=some (.int .i64 (b:Int))∧W.cell? ⟨gb,go+3,none⟩=some (.int .i64 (c:Int))∧W.cell? ⟨g,a,none⟩=some (.pointer (some ⟨ad a,0,none⟩))∧W.cell? ⟨g,b,none⟩=some (.pointer (some ⟨ad b,0,none⟩))∧W.cell? ⟨g,c,none⟩=some (.pointer (some ⟨ad c,0,none⟩)):=fun W hW=>by
  have hi2:=hi1.upd (upF hW) (fun _ _=>id);have k2:=k1.upd (upF hW) id;have hr2:=hr1.below3 hW;obtain⟨g',c',e,-,-,-,-,hg⟩:=aN hi2.rows (by omega);injection e with e;injection e with e;injection e with e;subst e;obtain⟨b',o',e,c1⟩:=hr2 1 (.int .i64 (b:Int)) rfl;injection e with e;injection e with e1 e2;subst e1;subst e2;obtain⟨b',o',e,c3⟩:=hr2 3 (.int .i64 (c:Int)) rfl;injection e with e;injection e with e1 e2;subst e1;subst e2;exact⟨hi2.blk.cell 1,k2.cell 0,k2.cell 1,c1,c3,(hg a _ (qL ha)).1,(hg b _ (qL hb)).1,(hg c _ (qL hc)).1⟩
 have HX:=aI5 hi1 b1 (hT.upd (upF b1) htab id) (Nat.lt_of_lt_of_le htab b1.size) hfit;have HS:=hIz SF;have haI:(a:Int)<(nts:Int):=by omega
 have hbI:(b:Int)<(nts:Int):=by omega
 have hcI:(c:Int)<(nts:Int):=by omega
 clear hi hr b1 k1 hi1 hr1 SF hT htab hfit;go_enter Tryz.func74,Tryz.ntmps74;go_upto_region 1 with (fail);generalize w.alloc (.cells #[.int .i64 (a:Int),.slice (some ⟨gb,go,none⟩) 2 cap] 71)=W1 at HX HS ⊢;generalize w.heap.size=z at HS ⊢;have HB:=hIz (show Below W1.heap.size W1 W1.drew from bR.drew);have hS:=HS.out W1.drew HB.out;refine bE (fun W:World=>W.cell? ⟨p,1,none⟩=some (.slice (some ⟨g,0,none⟩) nts gc)∧W.cell? ⟨z,0,none⟩=some (.int .i64 (a:Int))∧W.cell? ⟨z,1,none⟩=some (.slice (some ⟨gb,go,none⟩) 2 cap) ∧
   W.cell? ⟨gb,go+1,none⟩=some (.int .i64 (b:Int))∧W.cell? ⟨gb,go+3,none⟩=some (.int .i64 (c:Int))∧W.cell? ⟨g,a,none⟩=some (.pointer (some ⟨ad a,0,none⟩))∧W.cell? ⟨g,b,none⟩=some (.pointer (some ⟨ad b,0,none⟩))∧W.cell? ⟨g,c,none⟩=some (.pointer (some ⟨ad c,0,none⟩))) (aL 30) (by kernel_rfl) ?_
 generalize W1.drew=W2 at HB hS ⊢;intro hd;(refine aA 0 rfl hd hS ?_;clear hd;intro hd;(try simp only[Act.put,gA,gZ,sA,sZ,sS]))
 refine aA 1 rfl hd hS ?_;clear hd;intro hd;refine aA 2 rfl hd hS ?_;clear hd;intro hd;refine aA 3 rfl hd hS ?_;clear hd;intro hd;refine aA 4 rfl hd hS ?_;clear hd;intro hd;refine aA 5 rfl hd hS ?_;clear hd;intro hd;refine aA 6 rfl hd hS ?_;clear hd;intro hd;refine aA 7 rfl hd hS ?_;clear hd;intro hd;refine aA 8 rfl hd hS ?_;clear hd;intro hd;refine aA 9 rfl hd hS ?_;clear hd;intro hd;refine aA 10 rfl hd hS ?_;clear hd;intro hd;refine aA 11 rfl hd hS ?_;clear hd;intro hd;refine aA 12 rfl hd hS ?_;clear hd;intro hd;refine aA 13 rfl hd hS ?_;clear hd;intro hd;refine aA 14 rfl hd hS ?_;clear hd;intro hd;refine aA 15 rfl hd hS ?_;clear hd;intro hd;refine aA 16 rfl hd hS ?_;clear hd;intro hd;refine aA 17 rfl hd hS ?_;clear hd;intro hd;refine aA 18 rfl hd hS ?_;clear hd;intro hd;refine aA 19 rfl hd hS ?_;clear hd;intro hd;refine aA 20 rfl hd hS ?_;clear hd;intro hd;refine aA 21 rfl hd hS ?_;clear hd;intro hd;refine aA 22 rfl hd hS ?_;clear hd;intro hd;refine aA 23 rfl hd hS ?_;clear hd;intro hd;refine aA 24 rfl hd hS ?_;clear hd;intro hd;refine aA 25 rfl hd hS ?_;clear hd;intro hd;refine aA 26 rfl hd hS ?_;clear hd;intro hd;refine aA 27 rfl hd hS ?_;clear hd;intro hd;refine aA 28 rfl hd hS ?_;clear hd;intro hd;refine aA 29 rfl hd hS ?_;clear hd;intro hd;have hint:Hid (∃Fa Fb Fc,QuS W2 Fa (ad a) side (B a)∧QuS W2 Fb (ad b) side (B b)∧QuS W2 Fc (ad c) side (B c)∧(∀q,Fa q→O q=some (.mat a))∧qF W2∧1<W2.heap.size∧ClI W2 O p side nodes nts (.slice (some ⟨g,0,none⟩) nts gc) ad B):=hIz (by
  have hi2:=HX.out.1.upd (upF HB.out) (fun _ _=>id);obtain⟨Fa,a1,a2⟩:=hi2.mats a ha;obtain⟨Fb,b1,-⟩:=hi2.mats b hb;obtain⟨Fc,c1,-⟩:=hi2.mats c hc;exact⟨Fa,Fb,Fc,a1,b1,c1,a2,HX.out.2.2.1.upd (upF HB.out) HX.out.2.2.2.1 id,Nat.lt_of_lt_of_le HX.out.2.2.2.1 HB.out.size,hi2⟩)
 obtain⟨Fa,Fb,Fc,a1,b1,c1,a2,t1,t2,i2⟩:=hint.out;have hcon:=EM W2 Fa Fb Fc (ad a) (ad b) (ad c) side (B a) (B b) (B c) a1 b1 c1 hs64 t1 t2 HX.out.2.2.2.2;have HI:=aI2 i2 a2;clear a1 b1 c1 t1 t2 i2 a2 hint hS;refine aO hd 30 ?_;clear hd;intro hd;refine aS (S:=(fun W:World=>W.cell? ⟨p,1,none⟩=some (.slice (some ⟨g,0,none⟩) nts gc)∧W.cell? ⟨z,0,none⟩=some (.int .i64 (a:Int))∧W.cell? ⟨z,1,none⟩=some (.slice (some ⟨gb,go,none⟩) 2 cap) ∧
   W.cell? ⟨gb,go+1,none⟩=some (.int .i64 (b:Int))∧W.cell? ⟨gb,go+3,none⟩=some (.int .i64 (c:Int))∧W.cell? ⟨g,a,none⟩=some (.pointer (some ⟨ad a,0,none⟩))∧W.cell? ⟨g,b,none⟩=some (.pointer (some ⟨ad b,0,none⟩))∧W.cell? ⟨g,c,none⟩=some (.pointer (some ⟨ad c,0,none⟩)))) (late:=aL 30) rfl rfl (fun K hK=>?_)
 go_simp;refine hcon.mono ?_;clear hcon;rintro e W3 ⟨rfl,hto⟩;have FIN:=hIz (show vQ w (fun q=>O q≠none) p side nodes nts (upM B a (joinQ (B a) (mulO (B b) (B c)))) W3 from(vQ.after (tHn HX.out.2.1 HB.out) (HI.out.1.turn HI.out.2 hto)));clear hto;refine hK _ _ (fun h _=>absurd h (by decide)) ?_;clear hK K;(try simp only[Act.put,gA,gS,gZ,sA,sZ,sS])
 (refine aP (i:=31) (v:=?_) rfl (by kernel_rfl) hd (fun _ _ d _ _ h=>by cases d <;> exact h) (by first | with_reducible rfl | kernel_rfl) ?_ ?_;rotate_left;(focus (intro wS;go_simp;(try with_reducible rfl);done));clear hd;intro hd;(try simp only[Act.put,gA,gS,gZ,sA,sZ,sS]))
 (refine aP (i:=32) (v:=?_) rfl (by kernel_rfl) hd (fun _ _ d _ _ h=>by cases d <;> exact h) (by first | with_reducible rfl | kernel_rfl) ?_ ?_;rotate_left;(focus (intro wS;go_simp;(try with_reducible rfl);done));clear hd;intro hd;(try simp only[Act.put,gA,gS,gZ,sA,sZ,sS]))
 (refine aP (i:=33) (v:=?_) rfl (by kernel_rfl) hd (fun _ _ d _ _ h=>by cases d <;> exact h) (by first | with_reducible rfl | kernel_rfl) ?_ ?_;rotate_left;(focus (intro wS;go_simp;(try with_reducible rfl);done));clear hd;intro hd;(try simp only[Act.put,gA,gS,gZ,sA,sZ,sS]))
 (refine aP (i:=34) (v:=?_) rfl (by kernel_rfl) hd (fun _ _ d _ _ h=>by cases d <;> exact h) (by first | with_reducible rfl | kernel_rfl) ?_ ?_;rotate_left;(focus (intro wS;go_simp;(try with_reducible rfl);done));clear hd;intro hd;(try simp only[Act.put,gA,gS,gZ,sA,sZ,sS]))
 (refine aP (i:=35) (v:=?_) rfl (by kernel_rfl) hd (fun _ _ d _ _ h=>by cases d <;> exact h) (by first | with_reducible rfl | kernel_rfl) ?_ ?_;rotate_left;(focus (intro wS;go_simp;(try with_reducible rfl);done));clear hd;intro hd;(try simp only[Act.put,gA,gS,gZ,sA,sZ,sS]))
 refine cL (by kernel_rfl) ?_;go_wp2;go_ret;exact⟨rfl,FIN.out⟩
open Go.RowKit
theorem txt_beq(a b:Txt):(ByteArray.toList a==ByteArray.toList b)=decide (a=b):=by
 rw[Bool.eq_iff_iff,beq_iff_eq,decide_eq_true_iff,gC,gC];exact⟨nK,fun h=>by rw[h]⟩
def PH(G:Gr)(lb:Txt)(b:Option (List Nat)):Prop:=∀i j,i<64→j<64→(dX b i j=true↔∃x∈G.X,x.lb=lb∧G.N[i]?=some x.fr∧G.N[j]?=some x.to)
def kG(U:Nat→List Hp)(lb:Txt)(k t:Nat)(b:Option (List Nat)):Prop:=∀i j,i<64→j<64→(dX b i j=true↔(i<k∧∃h∈U i,h.lb=lb∧h.nd=(j:Int))∨(i=k∧∃h∈(U k).take t,h.lb=lb∧h.nd=(j:Int)))
theorem kG.all{G:Gr}{U V:Nat→List Hp}{lb:Txt}{b:Option (List Nat)}(h:kG U lb G.N.length 0 b)(ho:dH G.N G.X U V)(ok:GOk G):PH G lb b:=fun i j hi hj=>by
 rw[h i j hi hj];constructor
 ·rintro (⟨_,y,hy,h1,h2⟩|⟨_,y,hy,_⟩)
  ·obtain⟨x,hx,e1,rfl⟩:=(ho.um i y).1 hy;refine⟨x,hx,h1,e1,?_⟩;have h2:(eE G.N x.to:Int)=(j:Int):=h2;have:eE G.N x.to=j:=by omega
   rw[← this];exact cW (ok.ends x hx).2
  ·simp at hy
 ·rintro⟨x,hx,h1,h2,h3⟩;refine .inl ⟨(gO.1 h2).1,⟨x.lb,(eE G.N x.to:Int)⟩,(ho.um i _).2 ⟨x,hx,h2,rfl⟩,h1,?_⟩;show(eE G.N x.to:Int)=(j:Int)
  rw[rL ok.nd h3]
theorem kG.next{U:Nat→List Hp}{lb:Txt}{k:Nat}{b:Option (List Nat)}(h:kG U lb k (U k).length b):kG U lb (k+1) 0 b:=fun i j hi hj=>by
 rw[h i j hi hj,List.take_length];constructor
 ·rintro (⟨h1,h2⟩|⟨rfl,h2⟩)
  ·exact .inl ⟨by omega,h2⟩
  ·exact .inl ⟨by omega,h2⟩
 ·rintro (⟨h1,h2⟩|⟨_,y,hy,_⟩)
  ·by_cases e:i=k
   ·subst e;exact .inr ⟨rfl,h2⟩
   ·exact .inl ⟨by omega,h2⟩
  ·simp at hy
theorem kG.skip{U:Nat→List Hp}{lb:Txt}{k t:Nat}{b:Option (List Nat)}{y:Hp}(h:kG U lb k t b)(hy:(U k)[t]?=some y)(hn:y.lb≠lb):kG U lb k (t+1) b:=fun i j hi hj=>by
 rw[h i j hi hj,List.take_add_one,hy];simp only[Option.toList_some,List.mem_append,List.mem_singleton]
 constructor
 ·rintro (h1|⟨e,z,hz,h2⟩)
  ·exact .inl h1
  ·exact .inr ⟨e,z,.inl hz,h2⟩
 ·rintro (h1|⟨e,z,hz|rfl,h2⟩)
  ·exact .inl h1
  ·exact .inr ⟨e,z,hz,h2⟩
  ·exact absurd h2.1 hn
theorem kG.put{U:Nat→List Hp}{lb:Txt}{k t q:Nat}{b:Option (List Nat)}(h:kG U lb k t b)(hw:Wd (fI b))(hk:k<64)(hy:(U k)[t]?=some ⟨lb,(q:Int)⟩):kG U lb k (t+1) (setO b k q):=fun i j hi hj=>by
 rw[OR hw hk hi,Bool.or_eq_true,h i j hi hj,List.take_add_one,hy];simp only[Option.toList_some,List.mem_append,List.mem_singleton,decide_eq_true_eq]
 constructor
 ·rintro ((h1|⟨e,z,hz,h2⟩)|⟨rfl,rfl⟩)
  ·exact .inl h1
  ·exact .inr ⟨e,z,.inl hz,h2⟩
  ·exact .inr ⟨rfl,_,.inr rfl,rfl,rfl⟩
 ·rintro (h1|⟨e,z,hz|rfl,h2⟩)
  ·exact .inl (.inl h1)
  ·exact .inl (.inr ⟨e,z,hz,h2⟩)
  ·exact .inr ⟨e,by have:=h2.2;dsimp only at this;omega⟩
theorem kG.zero(U:Nat→List Hp)(lb:Txt):kG U lb 0 0 none:=fun i j _ _=>by
 constructor
 ·intro h;cases h
 ·rintro (⟨h,_⟩|⟨_,y,hy,_⟩)
  ·omega
  ·simp at hy
def UD(w:World)(G:Gr)(lb:Txt)(side:Nat)(e:Ending)(w':World):Prop:=∃q b,e=.returned (.tuple #[.pointer (some ⟨q,0,none⟩),.int .i64 0])∧gF w.heap.size q side b w'∧Below w.heap.size w w'∧PH G lb b
theorem uY(w:World)(F:Nat→Prop)(p:Nat)(G:Gr)(h:GrS w F p G)(ok:GOk G)(lb:Txt)(side:Nat)(hs:G.N.length≤side)(hs1:1≤side)(hs2:side≤1024) :
  Calls Tryz.prog 69 #[.pointer (some ⟨p,0,none⟩),.string lb,.int .i64 (side:Int)] w (UD w G lb side):=by
 obtain⟨U,V,⟨O,⟨r,nv,ov,iv,fo,fi⟩,hg,-⟩,ho⟩:=h;have hf:=ok.few;have q1:w.cell? ⟨p,1,none⟩=some (.map (some r)):=hg.blk.cell 1;obtain⟨nA,nc,e1,-,-⟩:=aK hg.rn;obtain⟨oA,oc,e2,-,-⟩:=aK hg.ro;dsimp only at e1 e2
 subst e1;subst e2;obtain⟨n,hn⟩:∃n,G.N.length=n:=⟨_,rfl⟩;have hn32:n≤32:=by omega
 rw[hn] at hs;have H:=aI4 hg ho ok hn;have hnew:=mZ w side hs1 hs2;have hlt:¬(side<n):=by omega
 clear hg ho ok hn hf;go_enter Tryz.func69,Tryz.ntmps69;go_wp2_with fail;refine(lG w p r q1).mono ?_;rintro e w' ⟨rfl,hw⟩;subst w';go_wp2_with fail;refine hnew.mono ?_;clear hnew q1;rintro e W1 ⟨q,rfl,fr1,b1⟩;have HF1:=hIz fr1;have HB1:=hIz b1;have hg1:=H.out.1.upd (upF b1) (fun _ _=>id);have q0:W1.cell? ⟨p,0,none⟩=some (.slice nA n nc):=by rw[← H.out.2.2.2];exact hg1.blk.cell 0
 have q2:W1.cell? ⟨p,2,none⟩=some (.slice oA n oc):=by rw[← H.out.2.2.2];exact hg1.blk.cell 2
 clear fr1 b1 hg1;go_wp2_with fail;clear q0 q2;go_loopw [38] (fun i wr=>∃k:Nat,k≤n∧i=.int .i64 k∧Hid (∃b,gF w.heap.size q side b wr∧kG U lb k 0 b)∧Hid (Below w.heap.size w wr)) (fun i _=>n-(intOf i).toNat)
 case atStart=>exact⟨0,Nat.zero_le _,rfl,hIz ⟨none,HF1.out,kG.zero U lb⟩,HB1⟩
 case round =>
  obtain⟨k,hk,rfl,hq,hbw⟩:=hrel;by_cases hkn:k<n
  ·have hknI:(k:Int)<(n:Int):=by omega
   have hkw:IntKind.i64.wrap ((k:Int)+1)=(k:Int)+1:=IntWalk.i64_in _ (by omega);have hkN:k<G.N.length:=by rw[H.out.2.2.2];exact hkn
   have hg:=H.out.1.upd (upF hbw.out) (fun _ _=>id);obtain⟨og,oc',e,-,co,-⟩:=jK hg.ro hkN;dsimp only at e co
   injection e with e e1 e2;subst e;clear e1 e2;obtain⟨A,cA,eA,-,-⟩:=aK (hg.fo k);dsimp only at eA
   have hrow:=H.out.1.fo k;dsimp only at hrow
   rw[eA] at co hrow;obtain⟨m,hm⟩:∃m,(U k).length=m:=⟨_,rfl⟩;have hm256:m≤256:=by rw[← hm];exact Nat.le_trans (H.out.2.1.len k).1 H.out.2.2.1.few.2
   rw[hm] at co;have HM:=aI2 hm (aX.of_own hrow);clear hg eA hrow hm;go_wp2_with fail;clear co;generalize wr=W5 at hq hbw ⊢;go_loopw [45] (fun i wr=>∃t:Nat,t≤m∧i=.int .i64 t∧Hid (∃b,gF w.heap.size q side b wr∧kG U lb k t b)∧Hid (Below w.heap.size w wr)) (fun i _=>m-(intOf i).toNat)
   case atStart=>exact⟨0,Nat.zero_le _,rfl,hq,hbw⟩
   case round =>
    obtain⟨t,ht,rfl,hqt,hbt⟩:=hrel;by_cases htm:t<m
    ·have htmI:(t:Int)<(m:Int):=by omega
     have htw:IntKind.i64.wrap ((t:Int)+1)=(t:Int)+1:=IntWalk.i64_in _ (by omega);obtain⟨⟨s,nd⟩,hx⟩:∃x,(U k)[t]?=some x:=⟨(U k)[t]'(by rw[HM.out.1];exact htm),gEz _⟩;obtain⟨ed,hed,-,hnd⟩:=(H.out.2.1.um k _).1 (mG hx);injection hnd with hs0 hnd;clear hs0;have hqn:=fY (H.out.2.2.1.ends ed hed).2;rw[H.out.2.2.2] at hqn;generalize eE G.N ed.to=v at hnd hqn;subst hnd;clear hed;obtain⟨ab,ao,rfl,y0,y1⟩:=(HM.out.2.below hbt.out).hp hx;dsimp only at y0 y1
     have k6:=Blk.new wr 143 #[.string s,.int .i64 (v:Int)];have u6:Below wr.heap.size wr (wr.alloc (.cells #[.string s,.int .i64 (v:Int)] 143)):=bR.alloc (Nat.le_refl _) _;obtain⟨b,hb1,hb2⟩:=hqt.out;have H6:=aI5 k6 (hb1.below u6) hb2 (tHn hbt.out u6) hx;clear k6 u6 hb1 hb2 hqt hbt hx;go_upto_region 12 with (fail);generalize wr.alloc (.cells #[.string s,.int .i64 (v:Int)] 143)=W6 at H6 ⊢;clear y0 y1;have y0:W6.cell? ⟨wr.heap.size,0,none⟩=some (.string s):=H6.out.1.cell 0;have y1:W6.cell? ⟨wr.heap.size,1,none⟩=some (.int .i64 (v:Int)):=H6.out.1.cell 1;by_cases hsl:s=lb
     ·subst hsl;obtain⟨F6,g6,n6⟩:=H6.out.2.1;have hset:=JP W6 F6 q side b g6 k v (by omega) (by omega) (by omega) (by omega);have HW:=hIz g6.wd;have HN6:=hIz n6;clear g6 n6;go_wp2_with fail;refine hset.mono ?_;clear hset y0 y1;rintro e W7 ⟨rfl,hto⟩;have hst:=gF.step HN6.out H6.out.2.2.2.1.size hto;have HF:=hIz hst;clear hto hst;go_wp2;go_roundw
      case rel=>exact⟨t+1,by omega,by go_num,hIz ⟨_,HF.out.1,H6.out.2.2.1.put HW.out (by omega) H6.out.2.2.2.2⟩,hIz (H6.out.2.2.2.1.trans HF.out.2)⟩
      case measure=>simp[intOf];omega
     ·have hsb:(ByteArray.toList s==ByteArray.toList lb)=false:=by rw[txt_beq];exact decide_eq_false hsl
      go_wp2;go_roundw
      case rel=>exact⟨t+1,by omega,by go_num,hIz ⟨b,H6.out.2.1,H6.out.2.2.1.skip H6.out.2.2.2.2 hsl⟩,hIz H6.out.2.2.2.1⟩
      case measure=>simp[intOf];omega
    ·obtain rfl:t=m:=by omega
     go_wp2;go_roundw
     case rel=>exact⟨k+1,by omega,by go_num,hIz (by
      obtain⟨b,h1,h2⟩:=hqt.out;rw[← HM.out.1] at h2;exact⟨b,h1,h2.next⟩),hbt⟩
     case measure=>simp[intOf];omega
  ·obtain rfl:k=n:=by omega
   have FIN:=hIz (show UD w G lb side (.returned (.tuple #[.pointer (some ⟨q,0,none⟩),.int .i64 0])) wr from by
    obtain⟨b,h1,h2⟩:=hq.out;rw[← H.out.2.2.2] at h2;exact⟨q,b,rfl,h1,hbw.out,h2.all H.out.2.1 H.out.2.2.1⟩)
   clear hq hbw;go_wp2;refine bodyPost_ret (v:=.tuple #[.pointer (some ⟨q,0,none⟩),.int .i64 0]) (by simp[results,Tryz.f69,go_sem]) rfl FIN.out
open Go.RowKit Go.Shelf
def ElG(G:Gr)(labels:List Txt)(k:Int)(i j:Nat):Prop:=∃lb,labels[k.toNat]?=some lb∧∃x∈G.X,x.lb=lb∧G.N[i]?=some x.fr∧G.N[j]?=some x.to
theorem ElG.lt{G:Gr}{labels:List Txt}{k:Int}{i j:Nat}(h:ElG G labels k i j):i<G.N.length∧j<G.N.length:=by
 obtain⟨lb,-,x,-,-,h1,h2⟩:=h;exact⟨(gO.1 h1).1,(gO.1 h2).1⟩
theorem QuS.wdO{w:World}{F:Nat→Prop}{p side:Nat}{b:Option (List Nat)}(h:QuS w F p side b):WdO b:=by
 obtain⟨O,dep,cnt,m,last,L,pv,lv,hq,ok,-⟩:=h;exact fun r e=>(ok.is r e).2.2.2.2
theorem AF{El:Int→Nat→Nat→Prop}{n:Nat}(hn:n≤64){p:Pr}(hp:p.body=[]):sG El n p (joinO none (cM kQ n)):=by
 have hd:Wd kQ:=jJ;have hc:=iM hd n;refine⟨WdO.joinO (b:=none) (fun r e=>by cases e) hc,?_⟩;rw[hp];intro i j hi;rw[oJ (b:=none) eJ hc hi,yM hi,KE hi];show(false||_)=true↔_
 simp only[Bool.false_or,Bool.and_eq_true,decide_eq_true_eq]
 constructor
 ·rintro⟨rfl,h1,-⟩;exact⟨rfl,h1⟩
 ·rintro⟨rfl,h1⟩;exact⟨rfl,h1,h1⟩
theorem FD{G:Gr}{labels:List Txt}{n:Nat}{p:Pr}{s:Sy}{lb:Txt}{m:Option (List Nat)}(hm:WdO m)(hp:p.body=[s])(hl:labels[s.at_.toNat]?=some lb)(h:PH G lb m):sG (ElG G labels) n p m:=by
 refine⟨hm,?_⟩;rw[hp];intro i j hi hj;rw[h i j hi hj];constructor
 ·rintro⟨x,hx,e⟩;exact⟨lb,hl,x,hx,e⟩
 ·rintro⟨lb',hl',x,hx,e⟩;rw[hl] at hl';obtain rfl:=Option.some.inj hl';exact⟨x,hx,e⟩
def yP(w:World)(F:Nat→Prop)(p side nodes nts:Nat)(B:eG)(El:Int→Nat→Nat→Prop)(pr:Pr)(e:Ending)(w':World):Prop:=
 ∃m,sG El nodes pr m∧e=.returned (.bool (dG (B pr.head.toNat) m))∧vQ w F p side nodes nts (upM B pr.head.toNat (joinQ (B pr.head.toNat) m)) w'
theorem AG(w:World)(F:Nat→Prop)(p side nts:Nat)(B:eG)(h:ClS w F p side side nts B)(a:Nat)(A:Option Addr)(cap:Nat)(ha:a<nts)(hs1:1≤side)(hs64:side≤64)(El:Int→Nat→Nat→Prop)(lv gv:Value) :
  Calls Tryz.prog 72 #[.pointer (some ⟨p,0,none⟩),.agg #[.int .i64 (a:Int),.slice A 0 cap],lv,gv] w (yP w F p side side nts B El ⟨(a:Int),[]⟩):=by
 obtain⟨nodes,hnodes⟩:∃nodes,side=nodes:=⟨_,rfl⟩;have hnI:(1:Int)≤(nodes:Int):=by omega
 rw[show ClS w F p side side nts B=ClS w F p side nodes nts B by rw[← hnodes]] at h;have GG:=hIz (show ∀e w',(∃m,sG El nodes ⟨(a:Int),[]⟩ m∧e=.returned (.bool (dG (B a) m))∧vQ w F p side nodes nts (upM B a (joinQ (B a) m)) w')→yP w F p side side nts B El ⟨(a:Int),[]⟩ e w' from fun e w' h=>by
  subst hnodes;exact h)
 obtain⟨O,pv,ad,hi,rfl⟩:=h;obtain⟨g,gc,rfl,-,-,-,-,-⟩:=aN hi.rows (by omega);have b1:Below w.heap.size w (w.alloc (.cells #[.int .i64 (a:Int),.slice A 0 cap] 71)):=bR.alloc (Nat.le_refl _) _;have k1:=Blk.new w 71 #[.int .i64 (a:Int),.slice A 0 cap];have hi1:=hi.upd (upF b1) (fun _ _=>id);have SF:∀W,Below (w.alloc (.cells #[.int .i64 (a:Int),.slice A 0 cap] 71)).heap.size (w.alloc (.cells #[.int .i64 (a:Int),.slice A 0 cap] 71)) W →
   W.cell? ⟨p,1,none⟩=some (.slice (some ⟨g,0,none⟩) nts gc)∧W.cell? ⟨w.heap.size,0,none⟩=some (.int .i64 (a:Int))∧W.cell? ⟨g,a,none⟩=some (.pointer (some ⟨ad a,0,none⟩)):=fun W hW=>by
  have hi2:=hi1.upd (upF hW) (fun _ _=>id);have k2:=k1.upd (upF hW) id;obtain⟨g',c',e,-,-,-,-,hg⟩:=aN hi2.rows (by omega);injection e with e;injection e with e;injection e with e;subst e;exact⟨hi2.blk.cell 1,k2.cell 0,(hg a _ (qL ha)).1⟩
 have HX:=aI2 hi1 b1;have HS:=hIz SF;have haI:(a:Int)<(nts:Int):=by omega
 have qn:(w.alloc (.cells #[.int .i64 (a:Int),.slice A 0 cap] 71)).cell? ⟨p,0,none⟩=some (.int .i64 (nodes:Int)):=hi1.blk.cell 0;have qs:(w.alloc (.cells #[.int .i64 (a:Int),.slice A 0 cap] 71)).cell? ⟨w.heap.size,1,none⟩=some (.slice A 0 cap):=k1.cell 1;have hone:=KF (w.alloc (.cells #[.int .i64 (a:Int),.slice A 0 cap] 71)) nodes (by omega) (by omega);have HV:=hIz (AF (El:=El) (n:=nodes) (by omega) (p:=⟨(a:Int),[]⟩) rfl);have HN:=hIz hnodes;clear hi b1 k1 hi1 SF hnodes;go_enter Tryz.func72,Tryz.ntmps72;go_wp2_with fail;refine hone.mono ?_;clear hone;rintro e W2 ⟨q,rfl,hfr,b2⟩;rw[← HN.out] at hfr;have HQ:=hIz hfr;have HG:Hid (sG El nodes ⟨(a:Int),[]⟩ (joinO none (cM kQ side))):=hIz (by rw[HN.out];exact HV.out);generalize joinO none (cM kQ side)=m at HQ HG;have B2:=hIz b2;clear hfr b2;generalize w.alloc (.cells #[.int .i64 (a:Int),.slice A 0 cap] 71)=W1 at HX HS B2 HQ qn qs ⊢;generalize w.heap.size=z at HS qs ⊢;go_upto_region 8 with (fail);have HB3:=hIz (show Below W2.heap.size W2 W2.drew from bR.drew);have hS:=HS.out W2.drew (tHn B2.out HB3.out);refine bE (fun W:World=>W.cell? ⟨p,1,none⟩=some (.slice (some ⟨g,0,none⟩) nts gc)∧W.cell? ⟨z,0,none⟩=some (.int .i64 (a:Int))∧W.cell? ⟨g,a,none⟩=some (.pointer (some ⟨ad a,0,none⟩))) (aL 9) (by kernel_rfl) ?_;generalize W2.drew=W3 at HB3 hS ⊢;intro hd;(refine aA 0 rfl hd hS ?_;clear hd;intro hd;(try simp only[Act.put,gA,gZ,sA,sZ,sS]))
 refine aA 1 rfl hd hS ?_;clear hd;intro hd;refine aA 2 rfl hd hS ?_;clear hd;intro hd;refine aA 3 rfl hd hS ?_;clear hd;intro hd;refine aA 4 rfl hd hS ?_;clear hd;intro hd;refine aA 5 rfl hd hS ?_;clear hd;intro hd;refine aA 6 rfl hd hS ?_;clear hd;intro hd;refine aA 7 rfl hd hS ?_;clear hd;intro hd;refine aA 8 rfl hd hS ?_;clear hd;intro hd;have hint:Hid (∃Fa Fm,QuS W3 Fa (ad a) side (B a)∧QuS W3 Fm q side m∧(∀q,Fa q→O q=some (.mat a))∧ClI W3 O p side nodes nts (.slice (some ⟨g,0,none⟩) nts gc) ad B):=hIz (by
  have hi3:=HX.out.1.upd (Upd.of_below (tHn B2.out HB3.out) (fun _=>False)) (fun _ _=>id);obtain⟨Fa,a1,a2⟩:=hi3.mats a ha;obtain⟨Fm,m1,-⟩:=HQ.out;exact⟨Fa,Fm,a1,m1.below HB3.out,a2,hi3⟩)
 obtain⟨Fa,Fm,a1,m1,a2,i3⟩:=hint.out;have hcon:=oH W3 Fa Fm (ad a) q side (B a) m a1 m1;have HI:=aI2 i3 a2;clear a1 m1 i3 a2 hint hS;refine aO hd 9 ?_;clear hd;intro hd;refine aS (S:=(fun W:World=>W.cell? ⟨p,1,none⟩=some (.slice (some ⟨g,0,none⟩) nts gc)∧W.cell? ⟨z,0,none⟩=some (.int .i64 (a:Int))∧W.cell? ⟨g,a,none⟩=some (.pointer (some ⟨ad a,0,none⟩)))) (late:=aL 9) rfl rfl (fun K hK=>?_);go_simp;refine hcon.mono ?_;clear hcon;rintro e W4 ⟨rfl,hto⟩;have FIN:=hIz (show vQ w (fun q=>O q≠none) p side nodes nts (upM B a (joinQ (B a) m)) W4 from(vQ.after (HX.out.2.trans ((tHn B2.out HB3.out).mono HX.out.2.size)) (HI.out.1.turn HI.out.2 hto)));clear hto;refine hK _ _ (fun h _=>absurd h (by decide)) ?_;clear hK K;(try simp only[Act.put,gA,gS,gZ,sA,sZ,sS])
 (refine aP (i:=10) (v:=?_) rfl (by kernel_rfl) hd (fun _ _ d _ _ h=>by cases d <;> exact h) (by first | with_reducible rfl | kernel_rfl) ?_ ?_;rotate_left;(focus (intro wS;go_simp;(try with_reducible rfl);done));clear hd;intro hd;(try simp only[Act.put,gA,gS,gZ,sA,sZ,sS]))
 (refine aP (i:=11) (v:=?_) rfl (by kernel_rfl) hd (fun _ _ d _ _ h=>by cases d <;> exact h) (by first | with_reducible rfl | kernel_rfl) ?_ ?_;rotate_left;(focus (intro wS;go_simp;(try with_reducible rfl);done));clear hd;intro hd;(try simp only[Act.put,gA,gS,gZ,sA,sZ,sS]))
 (refine aP (i:=12) (v:=?_) rfl (by kernel_rfl) hd (fun _ _ d _ _ h=>by cases d <;> exact h) (by first | with_reducible rfl | kernel_rfl) ?_ ?_;rotate_left;(focus (intro wS;go_simp;(try with_reducible rfl);done));clear hd;intro hd;(try simp only[Act.put,gA,gS,gZ,sA,sZ,sS]))
 (refine aP (i:=13) (v:=?_) rfl (by kernel_rfl) hd (fun _ _ d _ _ h=>by cases d <;> exact h) (by first | with_reducible rfl | kernel_rfl) ?_ ?_;rotate_left;(focus (intro wS;go_simp;(try with_reducible rfl);done));clear hd;intro hd;(try simp only[Act.put,gA,gS,gZ,sA,sZ,sS]))
 (refine aP (i:=14) (v:=?_) rfl (by kernel_rfl) hd (fun _ _ d _ _ h=>by cases d <;> exact h) (by first | with_reducible rfl | kernel_rfl) ?_ ?_;rotate_left;(focus (intro wS;go_simp;(try with_reducible rfl);done));clear hd;intro hd;(try simp only[Act.put,gA,gS,gZ,sA,sZ,sS]))
 refine cL (by kernel_rfl) ?_;go_wp2;go_ret;exact GG.out _ _ ⟨m,HG.out,rfl,FIN.out⟩
theorem AH(w:World)(p:Nat)(hd:Int)(A:Option Addr)(len cap:Nat)(hl:2≤len)(lv gv:Value) :
  Calls Tryz.prog 72 #[.pointer (some ⟨p,0,none⟩),.agg #[.int .i64 hd,.slice A len cap],lv,gv] w (fun e w'=>e=.returned (.bool false)∧Below w.heap.size w w'):=by
 have b1:Below w.heap.size w (w.alloc (.cells #[.int .i64 hd,.slice A len cap] 71)):=bR.alloc (Nat.le_refl _) _;have k1:=Blk.new w 71 #[.int .i64 hd,.slice A len cap];have q1:(w.alloc (.cells #[.int .i64 hd,.slice A len cap] 71)).cell? ⟨w.heap.size,1,none⟩=some (.slice A len cap):=k1.cell 1;have z0:((len:Int)==0)=false:=by simp;omega
 have z1:((len:Int)==1)=false:=by simp;omega
 have H:=hIz b1;clear b1 k1;go_enter Tryz.func72,Tryz.ntmps72;go_wp2;go_ret;exact⟨rfl,H.out⟩
open Go.RowKit Go.Shelf
theorem AI(w:World)(F:Nat→Prop)(p side nts:Nat)(B:eG)(h:ClS w F p side side nts B)(a k:Nat)(lab:Bool)(A:Option Addr)(cap:Nat)(hr:aX w A (dU [⟨lab,k⟩]))(ha:a<nts)(hs1:1≤side)(hs64:side≤64)(LA:Option Addr)(cl:Nat)(labels:List Txt)(hlab:aX w LA (aE labels))(lb:Txt)(hk:labels[k]?=some lb)(Fg:Nat→Prop)(pg:Nat)(G:Gr)(hG:GrS w Fg pg G)(ok:GOk G)(hn:G.N.length=side) :
  Calls Tryz.prog 72 #[.pointer (some ⟨p,0,none⟩),.agg #[.int .i64 (a:Int),.slice A 1 cap],.slice LA labels.length cl,.pointer (some ⟨pg,0,none⟩)] w (yP w F p side side nts B (ElG G labels) ⟨(a:Int),[⟨lab,k⟩]⟩):=by
 obtain⟨nodes,hnodes⟩:∃nodes,side=nodes:=⟨_,rfl⟩;have hnI:(1:Int)≤(nodes:Int):=by omega
 rw[show ClS w F p side side nts B=ClS w F p side nodes nts B by rw[← hnodes]] at h;have GG:=hIz (show ∀e w',(∃m,sG (ElG G labels) nodes ⟨(a:Int),[⟨lab,k⟩]⟩ m∧e=.returned (.bool (dG (B a) m))∧vQ w F p side nodes nts (upM B a (joinQ (B a) m)) w')→yP w F p side side nts B (ElG G labels) ⟨(a:Int),[⟨lab,k⟩]⟩ e w' from fun e w' h=>by
  subst hnodes;exact h)
 obtain⟨O,pv,ad,hi,rfl⟩:=h;obtain⟨gb,go,rfl,-⟩:=hr 0 (.bool lab) rfl;obtain⟨lg,lo,rfl,-⟩:=hlab.txt hk;obtain⟨g,gc,rfl,-,-,-,-,-⟩:=aN hi.rows (by omega);have b1:Below w.heap.size w (w.alloc (.cells #[.int .i64 (a:Int),.slice (some ⟨gb,go,none⟩) 1 cap] 71)):=bR.alloc (Nat.le_refl _) _;have k1:=Blk.new w 71 #[.int .i64 (a:Int),.slice (some ⟨gb,go,none⟩) 1 cap];have hi1:=hi.upd (upF b1) (fun _ _=>id);have SF:∀W,Below (w.alloc (.cells #[.int .i64 (a:Int),.slice (some ⟨gb,go,none⟩) 1 cap] 71)).heap.size (w.alloc (.cells #[.int .i64 (a:Int),.slice (some ⟨gb,go,none⟩) 1 cap] 71)) W →
   W.cell? ⟨p,1,none⟩=some (.slice (some ⟨g,0,none⟩) nts gc)∧W.cell? ⟨w.heap.size,0,none⟩=some (.int .i64 (a:Int))∧W.cell? ⟨g,a,none⟩=some (.pointer (some ⟨ad a,0,none⟩)):=fun W hW=>by
  have hi2:=hi1.upd (upF hW) (fun _ _=>id);have k2:=k1.upd (upF hW) id;obtain⟨g',c',e,-,-,-,-,hg⟩:=aN hi2.rows (by omega);injection e with e;injection e with e;injection e with e;subst e;exact⟨hi2.blk.cell 1,k2.cell 0,(hg a _ (qL ha)).1⟩
 have HX:=aI2 hi1 b1;have HS:=hIz SF;have haI:(a:Int)<(nts:Int):=by omega
 have qn:(w.alloc (.cells #[.int .i64 (a:Int),.slice (some ⟨gb,go,none⟩) 1 cap] 71)).cell? ⟨p,0,none⟩=some (.int .i64 (nodes:Int)):=hi1.blk.cell 0;have qs:(w.alloc (.cells #[.int .i64 (a:Int),.slice (some ⟨gb,go,none⟩) 1 cap] 71)).cell? ⟨w.heap.size,1,none⟩=some (.slice (some ⟨gb,go,none⟩) 1 cap):=k1.cell 1;have hr1:=hr.below3 b1;have hl1:=hlab.below3 b1;have S7:=hIz (show ∀W,Below (w.alloc (.cells #[.int .i64 (a:Int),.slice (some ⟨gb,go,none⟩) 1 cap] 71)).heap.size (w.alloc (.cells #[.int .i64 (a:Int),.slice (some ⟨gb,go,none⟩) 1 cap] 71)) W →
   W.cell? ⟨w.heap.size,1,none⟩=some (.slice (some ⟨gb,go,none⟩) 1 cap)∧W.cell? ⟨gb,go+1,none⟩=some (.int .i64 (k:Int))∧W.cell? ⟨lg,lo+k,none⟩=some (.string lb)∧W.cell? ⟨p,0,none⟩=some (.int .i64 (nodes:Int)) from fun W hW=>by
  have hi2:=hi1.upd (upF hW) (fun _ _=>id);have k2:=k1.upd (upF hW) id;have hr2:=hr1.below3 hW;obtain⟨b',o',e,c1⟩:=hr2 1 (.int .i64 (k:Int)) rfl;injection e with e;injection e with e1 e2;subst e1;subst e2;obtain⟨b',o',e,c2⟩:=(hl1.below3 hW).txt hk;injection e with e;injection e with e1 e2;subst e1;subst e2;exact⟨k2.cell 1,c1,c2,hi2.blk.cell 0⟩)
 have HG0:=aI4 (hG.below b1) ok hn hk;have hkI:(k:Int)<(labels.length:Int):=by have:=(gO.1 hk).1;omega
 have hn64:nodes≤64:=by omega
 have HN:=hIz hnodes;clear hi b1 k1 hi1 SF hnodes hr hlab hG ok hn hk hr1 hl1;obtain⟨nl,hnl⟩:∃nl,labels.length=nl:=⟨_,rfl⟩;rw[hnl] at hkI ⊢;clear hnl;go_enter Tryz.func72,Tryz.ntmps72;go_upto_region 7 with (fail);generalize w.alloc (.cells #[.int .i64 (a:Int),.slice (some ⟨gb,go,none⟩) 1 cap] 71)=W1 at HX HS S7 HG0 qn qs ⊢;generalize w.heap.size=z at HS S7 qs ⊢;have HB1:=hIz (show Below W1.heap.size W1 W1.drew from bR.drew);have hS:=S7.out W1.drew HB1.out;refine bE (fun W:World=>W.cell? ⟨z,1,none⟩=some (.slice (some ⟨gb,go,none⟩) 1 cap)∧W.cell? ⟨gb,go+1,none⟩=some (.int .i64 (k:Int))∧W.cell? ⟨lg,lo+k,none⟩=some (.string lb)∧W.cell? ⟨p,0,none⟩=some (.int .i64 (nodes:Int))) (aL 13) (by kernel_rfl) ?_;generalize W1.drew=V1 at HB1 hS ⊢;intro hd;(refine aA 0 rfl hd hS ?_;clear hd;intro hd;(try simp only[Act.put,gA,gZ,sA,sZ,sS]))
 refine aA 1 rfl hd hS ?_;clear hd;intro hd;refine aA 2 rfl hd hS ?_;clear hd;intro hd;refine aA 3 rfl hd hS ?_;clear hd;intro hd;refine aA 4 rfl hd hS ?_;clear hd;intro hd;refine aA 5 rfl hd hS ?_;clear hd;intro hd;refine aA 6 rfl hd hS ?_;clear hd;intro hd;refine aA 7 rfl hd hS ?_;clear hd;intro hd;refine aA 8 rfl hd hS ?_;clear hd;intro hd;refine aA 9 rfl hd hS ?_;clear hd;intro hd;refine aA 10 rfl hd hS ?_;clear hd;intro hd;refine aA 11 rfl hd hS ?_;clear hd;intro hd;refine aA 12 rfl hd hS ?_;clear hd;intro hd;have hcon:=uY V1 Fg pg G (HG0.out.1.below HB1.out) HG0.out.2.1 lb nodes (by rw[HG0.out.2.2.1,HN.out];exact Nat.le_refl _) (by omega) (by omega);clear hS;refine aO hd 13 ?_;clear hd;intro hd;refine aS (S:=(fun W:World=>W.cell? ⟨z,1,none⟩=some (.slice (some ⟨gb,go,none⟩) 1 cap)∧W.cell? ⟨gb,go+1,none⟩=some (.int .i64 (k:Int))∧W.cell? ⟨lg,lo+k,none⟩=some (.string lb)∧W.cell? ⟨p,0,none⟩=some (.int .i64 (nodes:Int)))) (late:=aL 13) rfl rfl (fun K hK=>?_);go_simp;refine hcon.mono ?_;clear hcon;rintro e W2 ⟨q,m,rfl,hfr,b2,hmat⟩;have HG:Hid (sG (ElG G labels) nodes ⟨(a:Int),[⟨lab,k⟩]⟩ m):=hIz (by
  obtain⟨Fm,hq,-⟩:=hfr;exact FD hq.wdO rfl (by rw[Int.toNat_natCast];exact HG0.out.2.2.2) hmat)
 rw[← HN.out] at hfr;have HQ:=hIz hfr;have B2:=hIz (tHn HB1.out b2);clear hfr b2 hmat;refine hK _ _ (fun h _=>absurd h (by decide)) ?_;clear hK K;(try simp only[Act.put,gA,gS,gZ,sA,sZ,sS])
 (refine aP (i:=14) (v:=?_) rfl (by kernel_rfl) hd (fun _ _ d _ _ h=>by cases d <;> exact h) (by first | with_reducible rfl | kernel_rfl) ?_ ?_;rotate_left;(focus (intro wS;go_simp;(try with_reducible rfl);done));clear hd;intro hd;(try simp only[Act.put,gA,gS,gZ,sA,sZ,sS]))
 (refine aP (i:=15) (v:=?_) rfl (by kernel_rfl) hd (fun _ _ d _ _ h=>by cases d <;> exact h) (by first | with_reducible rfl | kernel_rfl) ?_ ?_;rotate_left;(focus (intro wS;go_simp;(try with_reducible rfl);done));clear hd;intro hd;(try simp only[Act.put,gA,gS,gZ,sA,sZ,sS]))
 (refine aP (i:=16) (v:=?_) rfl (by kernel_rfl) hd (fun _ _ d _ _ h=>by cases d <;> exact h) (by first | with_reducible rfl | kernel_rfl) ?_ ?_;rotate_left;(focus (intro wS;go_simp;(try with_reducible rfl);done));clear hd;intro hd;(try simp only[Act.put,gA,gS,gZ,sA,sZ,sS]))
 (refine aP (i:=17) (v:=?_) rfl (by kernel_rfl) hd (fun _ _ d _ _ h=>by cases d <;> exact h) (by first | with_reducible rfl | kernel_rfl) ?_ ?_;rotate_left;(focus (intro wS;go_simp;(try with_reducible rfl);done));clear hd;intro hd;(try simp only[Act.put,gA,gS,gZ,sA,sZ,sS]))
 refine cL (by kernel_rfl) ?_;go_upto_region 8 with (fail);have HB3:=hIz (show Below W2.heap.size W2 W2.drew from bR.drew);have hS:=HS.out W2.drew (tHn B2.out HB3.out);refine bE (fun W:World=>W.cell? ⟨p,1,none⟩=some (.slice (some ⟨g,0,none⟩) nts gc)∧W.cell? ⟨z,0,none⟩=some (.int .i64 (a:Int))∧W.cell? ⟨g,a,none⟩=some (.pointer (some ⟨ad a,0,none⟩))) (aL 9) (by kernel_rfl) ?_;generalize W2.drew=W3 at HB3 hS ⊢;intro hd;(refine aA 0 rfl hd hS ?_;clear hd;intro hd;(try simp only[Act.put,gA,gZ,sA,sZ,sS]))
 refine aA 1 rfl hd hS ?_;clear hd;intro hd;refine aA 2 rfl hd hS ?_;clear hd;intro hd;refine aA 3 rfl hd hS ?_;clear hd;intro hd;refine aA 4 rfl hd hS ?_;clear hd;intro hd;refine aA 5 rfl hd hS ?_;clear hd;intro hd;refine aA 6 rfl hd hS ?_;clear hd;intro hd;refine aA 7 rfl hd hS ?_;clear hd;intro hd;refine aA 8 rfl hd hS ?_;clear hd;intro hd;have hint:Hid (∃Fa Fm,QuS W3 Fa (ad a) side (B a)∧QuS W3 Fm q side m∧(∀q,Fa q→O q=some (.mat a))∧ClI W3 O p side nodes nts (.slice (some ⟨g,0,none⟩) nts gc) ad B):=hIz (by
  have hi3:=HX.out.1.upd (Upd.of_below (tHn B2.out HB3.out) (fun _=>False)) (fun _ _=>id);obtain⟨Fa,a1,a2⟩:=hi3.mats a ha;obtain⟨Fm,m1,-⟩:=HQ.out;exact⟨Fa,Fm,a1,m1.below HB3.out,a2,hi3⟩)
 obtain⟨Fa,Fm,a1,m1,a2,i3⟩:=hint.out;have hcon:=oH W3 Fa Fm (ad a) q side (B a) m a1 m1;have HI:=aI2 i3 a2;clear a1 m1 i3 a2 hint hS;refine aO hd 9 ?_;clear hd;intro hd;refine aS (S:=(fun W:World=>W.cell? ⟨p,1,none⟩=some (.slice (some ⟨g,0,none⟩) nts gc)∧W.cell? ⟨z,0,none⟩=some (.int .i64 (a:Int))∧W.cell? ⟨g,a,none⟩=some (.pointer (some ⟨ad a,0,none⟩)))) (late:=aL 9) rfl rfl (fun K hK=>?_);go_simp;refine hcon.mono ?_;clear hcon;rintro e W4 ⟨rfl,hto⟩;have FIN:=hIz (show vQ w (fun q=>O q≠none) p side nodes nts (upM B a (joinQ (B a) m)) W4 from(vQ.after (HX.out.2.trans ((tHn B2.out HB3.out).mono HX.out.2.size)) (HI.out.1.turn HI.out.2 hto)));clear hto;refine hK _ _ (fun h _=>absurd h (by decide)) ?_;clear hK K;(try simp only[Act.put,gA,gS,gZ,sA,sZ,sS])
 (refine aP (i:=10) (v:=?_) rfl (by kernel_rfl) hd (fun _ _ d _ _ h=>by cases d <;> exact h) (by first | with_reducible rfl | kernel_rfl) ?_ ?_;rotate_left;(focus (intro wS;go_simp;(try with_reducible rfl);done));clear hd;intro hd;(try simp only[Act.put,gA,gS,gZ,sA,sZ,sS]))
 (refine aP (i:=11) (v:=?_) rfl (by kernel_rfl) hd (fun _ _ d _ _ h=>by cases d <;> exact h) (by first | with_reducible rfl | kernel_rfl) ?_ ?_;rotate_left;(focus (intro wS;go_simp;(try with_reducible rfl);done));clear hd;intro hd;(try simp only[Act.put,gA,gS,gZ,sA,sZ,sS]))
 (refine aP (i:=12) (v:=?_) rfl (by kernel_rfl) hd (fun _ _ d _ _ h=>by cases d <;> exact h) (by first | with_reducible rfl | kernel_rfl) ?_ ?_;rotate_left;(focus (intro wS;go_simp;(try with_reducible rfl);done));clear hd;intro hd;(try simp only[Act.put,gA,gS,gZ,sA,sZ,sS]))
 (refine aP (i:=13) (v:=?_) rfl (by kernel_rfl) hd (fun _ _ d _ _ h=>by cases d <;> exact h) (by first | with_reducible rfl | kernel_rfl) ?_ ?_;rotate_left;(focus (intro wS;go_simp;(try with_reducible rfl);done));clear hd;intro hd;(try simp only[Act.put,gA,gS,gZ,sA,sZ,sS]))
 (refine aP (i:=14) (v:=?_) rfl (by kernel_rfl) hd (fun _ _ d _ _ h=>by cases d <;> exact h) (by first | with_reducible rfl | kernel_rfl) ?_ ?_;rotate_left;(focus (intro wS;go_simp;(try with_reducible rfl);done));clear hd;intro hd;(try simp only[Act.put,gA,gS,gZ,sA,sZ,sS]))
 refine cL (by kernel_rfl) ?_;go_wp2;go_ret;exact GG.out _ _ ⟨m,HG.out,rfl,FIN.out⟩
end Go.Proofs.YteffnejneoocgaaGreatDoor
