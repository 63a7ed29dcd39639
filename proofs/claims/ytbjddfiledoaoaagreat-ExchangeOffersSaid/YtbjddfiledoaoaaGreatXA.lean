import Derived.Test.YtbjddfiledoaoaaGreatCallA
import Derived.Deep.Cut
namespace Go.Proofs.YtbjddfiledoaoaaGreat
open Go.RowKit
structure Nt where
 k:Int
 call:Int
 d:Int
 c:Int
 e:Int
 n:Int
 body:List UInt8
def vK (k:Int):Bool:=decide (1≤k) && decide (k≤10)
def vM (m:Nt):Bool:=vK m.k && vN m.call 0 && vN m.e 0 && vN m.n 0 && vC m.d && vC m.c && decide (m.body.length≤8100)
def encM (m:Nt):List UInt8:=if vM m=true then encI m.k++encI m.call++encI m.d++encI m.c++encI m.e++encI m.n++encD m.body else []
def Nt.cells (m:Nt) (A:Option Addr) (c:Nat):List Value:=[.int .i64 m.k,.int .i64 m.call,.int .i64 m.d,.int .i64 m.c,.int .i64 m.e,.int .i64 m.n,.slice A m.body.length c]
theorem vN_true {n lo:Int} (h:vN n lo=true):lo≤n∧n≤1099511627776:=by
 unfold vN at h;simp only [Bool.and_eq_true,decide_eq_true_eq] at h;exact h
theorem vN_false {n lo:Int} (h:vN n lo=false):n<lo∨1099511627776<n:=by
 unfold vN at h;simp only [Bool.and_eq_false_iff,decide_eq_false_iff_not] at h;omega
theorem vC_true {n:Int} (h:vC n=true):0≤n∧n<9:=by
 unfold vC at h;simp only [Bool.and_eq_true,decide_eq_true_eq] at h;exact h
theorem vC_false {n:Int} (h:vC n=false):n<0∨9≤n:=by
 unfold vC at h;simp only [Bool.and_eq_false_iff,decide_eq_false_iff_not] at h;omega
theorem vM_iff {m:Nt}:vM m=true↔(1≤m.k∧m.k≤10)∧vN m.call 0=true∧vN m.e 0=true∧vN m.n 0=true∧vC m.d=true∧vC m.c=true∧m.body.length≤8100:=by
 unfold vM vK
 simp only [Bool.and_eq_true,decide_eq_true_eq,and_assoc]
theorem vM_ok {m:Nt} (h:vM m=true):i64ok m.k∧i64ok m.call∧i64ok m.d∧i64ok m.c∧i64ok m.e∧i64ok m.n:=by
 obtain ⟨h1,h2,h3,h4,h5,h6,_⟩:=vM_iff.1 h
 have h2:=vN_true h2
 have h3:=vN_true h3
 have h4:=vN_true h4
 have h5:=vC_true h5
 have h6:=vC_true h6
 exact ⟨⟨by omega,by omega⟩,⟨by omega,by omega⟩,⟨by omega,by omega⟩,⟨by omega,by omega⟩,⟨by omega,by omega⟩,by omega,by omega⟩
theorem vM_no {m:Nt} (h:¬((1≤m.k∧m.k≤10)∧vN m.call 0=true∧vN m.e 0=true∧vN m.n 0=true∧vC m.d=true∧vC m.c=true∧m.body.length≤8100)):vM m=false:=by
 cases hv:vM m
 ·rfl
 ·exact absurd (vM_iff.1 hv) h
theorem count_any (w:World) (n:Int):Calls Tryz.prog 85 #[.int .i64 n] w (BPost w (.bool (vN n 0))):=by
 have HV:=hid (show vN n 0=(decide (0≤n) && decide (n≤1099511627776)) from rfl)
 by_cases h:0≤n
 ·have d1:decide (0≤n)=true:=decide_eq_true h
  go_enter Tryz.func85,Tryz.ntmps85
  go_wp2
  go_ret
  exact ⟨by rw [HV.out,d1];rfl,rfl⟩
 ·have d1:decide (0≤n)=false:=decide_eq_false h
  go_enter Tryz.func85,Tryz.ntmps85
  go_wp2
  go_ret
  exact ⟨by rw [HV.out,d1];rfl,rfl⟩
theorem vtick_any (w:World) (n:Int):Calls Tryz.prog 36 #[.int .i64 n] w (BPost w (.bool (vN n 0))):=by
 have HV:=hid (show vN n 0=(decide (0≤n) && decide (n≤1099511627776)) from rfl)
 by_cases h:0≤n
 ·have d1:decide (0≤n)=true:=decide_eq_true h
  go_enter Tryz.func36,Tryz.ntmps36
  go_wp2
  go_ret
  exact ⟨by rw [HV.out,d1];rfl,rfl⟩
 ·have d1:decide (0≤n)=false:=decide_eq_false h
  go_enter Tryz.func36,Tryz.ntmps36
  go_wp2
  go_ret
  exact ⟨by rw [HV.out,d1];rfl,rfl⟩
theorem rtick_any (w:World) (n:Int):Calls Tryz.prog 101 #[.int .i64 n] w (BPost w (.bool (vN n 0))):=by
 have HV:=hid (show vN n 0=(decide (0≤n) && decide (n≤1099511627776)) from rfl)
 by_cases h:0≤n
 ·have d1:decide (0≤n)=true:=decide_eq_true h
  go_enter Tryz.func101,Tryz.ntmps101
  go_wp2
  go_ret
  exact ⟨by rw [HV.out,d1];rfl,rfl⟩
 ·have d1:decide (0≤n)=false:=decide_eq_false h
  go_enter Tryz.func101,Tryz.ntmps101
  go_wp2
  go_ret
  exact ⟨by rw [HV.out,d1];rfl,rfl⟩
theorem place_any (w:World) (n:Int):Calls Tryz.prog 86 #[.int .i64 n] w (BPost w (.bool (vC n))):=by
 have HV:=hid (show vC n=(decide (0≤n) && decide (n<9)) from by first | rfl | (unfold vC;congr 1;by_cases h:n<9 <;> simp [h] <;> omega))
 by_cases h:0≤n
 ·have d1:decide (0≤n)=true:=decide_eq_true h
  go_enter Tryz.func86,Tryz.ntmps86
  go_wp2
  go_ret
  exact ⟨by rw [HV.out,d1];rfl,rfl⟩
 ·have d1:decide (0≤n)=false:=decide_eq_false h
  go_enter Tryz.func86,Tryz.ntmps86
  go_wp2
  go_ret
  exact ⟨by rw [HV.out,d1];rfl,rfl⟩
theorem desk_any (w:World) (n:Int):Calls Tryz.prog 122 #[.int .i64 n] w (BPost w (.bool (vC n))):=by
 have HV:=hid (show vC n=(decide (0≤n) && decide (n≤8)) from by first | rfl | (unfold vC;congr 1;by_cases h:n<9 <;> simp [h] <;> omega))
 by_cases h:0≤n
 ·have d1:decide (0≤n)=true:=decide_eq_true h
  go_enter Tryz.func122,Tryz.ntmps122
  go_wp2
  go_ret
  exact ⟨by rw [HV.out,d1];rfl,rfl⟩
 ·have d1:decide (0≤n)=false:=decide_eq_false h
  go_enter Tryz.func122,Tryz.ntmps122
  go_wp2
  go_ret
  exact ⟨by rw [HV.out,d1];rfl,rfl⟩
set_option maxRecDepth 100000 in
set_option maxHeartbeats 8000000 in
theorem validM_any (w:World) (m:Nt) (A:Option Addr) (cap:Nat):Calls Tryz.prog 51 #[.agg (m.cells A cap).toArray] w fun e w'=>e=.returned (.bool (vM m))∧Same w w':=by
 obtain ⟨k,call,d,c,e,n,body⟩:=m
 simp only [Nt.cells]
 have HK:=hid ((Keep.refl (fun _=>False) w).alloc (.cells #[.int .i64 k,.int .i64 call,.int .i64 d,.int .i64 c,.int .i64 e,.int .i64 n,.slice A body.length cap] 66))
 by_cases a1:1≤k
 ·by_cases a2:k≤10
  ·by_cases c1:vN call 0=true
   ·by_cases c2:vN e 0=true
    ·by_cases c3:vN n 0=true
     ·by_cases c4:vC d=true
      ·by_cases c5:vC c=true
       ·by_cases a3:(body.length:Int)≤8100
        ·have da1:decide (1≤k)=true:=decide_eq_true a1
         have da2:decide (k≤10)=true:=decide_eq_true a2
         have da3:decide ((body.length:Int)≤8100)=true:=decide_eq_true a3
         have da4:decide (body.length≤8100)=true:=decide_eq_true (by omega)
         go_enter Tryz.func51,Tryz.ntmps51
         go_wp2_with (first
          | (go_at_call 85;(with_reducible refine (count_any _ _).mono ?_);rintro e1 w1 ⟨rfl,rfl⟩;first | rw [c1] | rw [c2] | rw [c3])
          | (go_at_call 86;(with_reducible refine (place_any _ _).mono ?_);rintro e1 w1 ⟨rfl,rfl⟩;first | rw [c4] | rw [c5]))
         go_ret
         exact ⟨by rw [vM_iff.2 ⟨⟨by omega,by omega⟩,c1,c2,c3,c4,c5,by simp only;omega⟩];rfl,HK.out⟩
        ·have da1:decide (1≤k)=true:=decide_eq_true a1
         have da2:decide (k≤10)=true:=decide_eq_true a2
         have da3:decide ((body.length:Int)≤8100)=false:=decide_eq_false a3
         have da4:decide (body.length≤8100)=false:=decide_eq_false (by omega)
         go_enter Tryz.func51,Tryz.ntmps51
         go_wp2_with (first
          | (go_at_call 85;(with_reducible refine (count_any _ _).mono ?_);rintro e1 w1 ⟨rfl,rfl⟩;first | rw [c1] | rw [c2] | rw [c3])
          | (go_at_call 86;(with_reducible refine (place_any _ _).mono ?_);rintro e1 w1 ⟨rfl,rfl⟩;first | rw [c4] | rw [c5]))
         go_ret
         exact ⟨by rw [vM_no (by simp only;rintro ⟨⟨_,_⟩,_,_,_,_,_,_⟩;first | omega | simp_all)];rfl,HK.out⟩
       ·have da1:decide (1≤k)=true:=decide_eq_true a1
        have da2:decide (k≤10)=true:=decide_eq_true a2
        rw [Bool.not_eq_true] at c5
        go_enter Tryz.func51,Tryz.ntmps51
        go_wp2_with (first
         | (go_at_call 85;(with_reducible refine (count_any _ _).mono ?_);rintro e1 w1 ⟨rfl,rfl⟩;first | rw [c1] | rw [c2] | rw [c3])
         | (go_at_call 86;(with_reducible refine (place_any _ _).mono ?_);rintro e1 w1 ⟨rfl,rfl⟩;first | rw [c4] | rw [c5]))
        go_ret
        exact ⟨by rw [vM_no (by simp only;rintro ⟨⟨_,_⟩,_,_,_,_,_,_⟩;first | omega | simp_all)];rfl,HK.out⟩
      ·have da1:decide (1≤k)=true:=decide_eq_true a1
       have da2:decide (k≤10)=true:=decide_eq_true a2
       rw [Bool.not_eq_true] at c4
       go_enter Tryz.func51,Tryz.ntmps51
       go_wp2_with (first
        | (go_at_call 85;(with_reducible refine (count_any _ _).mono ?_);rintro e1 w1 ⟨rfl,rfl⟩;first | rw [c1] | rw [c2] | rw [c3])
        | (go_at_call 86;(with_reducible refine (place_any _ _).mono ?_);rintro e1 w1 ⟨rfl,rfl⟩;first | rw [c4] | rw [c5]))
       go_ret
       exact ⟨by rw [vM_no (by simp only;rintro ⟨⟨_,_⟩,_,_,_,_,_,_⟩;first | omega | simp_all)];rfl,HK.out⟩
     ·have da1:decide (1≤k)=true:=decide_eq_true a1
      have da2:decide (k≤10)=true:=decide_eq_true a2
      rw [Bool.not_eq_true] at c3
      go_enter Tryz.func51,Tryz.ntmps51
      go_wp2_with (first
       | (go_at_call 85;(with_reducible refine (count_any _ _).mono ?_);rintro e1 w1 ⟨rfl,rfl⟩;first | rw [c1] | rw [c2] | rw [c3])
       | (go_at_call 86;(with_reducible refine (place_any _ _).mono ?_);rintro e1 w1 ⟨rfl,rfl⟩;first | rw [c4] | rw [c5]))
      go_ret
      exact ⟨by rw [vM_no (by simp only;rintro ⟨⟨_,_⟩,_,_,_,_,_,_⟩;first | omega | simp_all)];rfl,HK.out⟩
    ·have da1:decide (1≤k)=true:=decide_eq_true a1
     have da2:decide (k≤10)=true:=decide_eq_true a2
     rw [Bool.not_eq_true] at c2
     go_enter Tryz.func51,Tryz.ntmps51
     go_wp2_with (first
      | (go_at_call 85;(with_reducible refine (count_any _ _).mono ?_);rintro e1 w1 ⟨rfl,rfl⟩;first | rw [c1] | rw [c2] | rw [c3])
      | (go_at_call 86;(with_reducible refine (place_any _ _).mono ?_);rintro e1 w1 ⟨rfl,rfl⟩;first | rw [c4] | rw [c5]))
     go_ret
     exact ⟨by rw [vM_no (by simp only;rintro ⟨⟨_,_⟩,_,_,_,_,_,_⟩;first | omega | simp_all)];rfl,HK.out⟩
   ·have da1:decide (1≤k)=true:=decide_eq_true a1
    have da2:decide (k≤10)=true:=decide_eq_true a2
    rw [Bool.not_eq_true] at c1
    go_enter Tryz.func51,Tryz.ntmps51
    go_wp2_with (first
     | (go_at_call 85;(with_reducible refine (count_any _ _).mono ?_);rintro e1 w1 ⟨rfl,rfl⟩;first | rw [c1] | rw [c2] | rw [c3])
     | (go_at_call 86;(with_reducible refine (place_any _ _).mono ?_);rintro e1 w1 ⟨rfl,rfl⟩;first | rw [c4] | rw [c5]))
    go_ret
    exact ⟨by rw [vM_no (by simp only;rintro ⟨⟨_,_⟩,_,_,_,_,_,_⟩;first | omega | simp_all)];rfl,HK.out⟩
  ·have da1:decide (1≤k)=true:=decide_eq_true a1
   have da2:decide (k≤10)=false:=decide_eq_false a2
   go_enter Tryz.func51,Tryz.ntmps51
   go_wp2_with (first
    | (go_at_call 85;(with_reducible refine (count_any _ _).mono ?_);rintro e1 w1 ⟨rfl,rfl⟩;first | rw [c1] | rw [c2] | rw [c3])
    | (go_at_call 86;(with_reducible refine (place_any _ _).mono ?_);rintro e1 w1 ⟨rfl,rfl⟩;first | rw [c4] | rw [c5]))
   go_ret
   exact ⟨by rw [vM_no (by simp only;rintro ⟨⟨_,_⟩,_,_,_,_,_,_⟩;first | omega | simp_all)];rfl,HK.out⟩
 ·have da1:decide (1≤k)=false:=decide_eq_false a1
  go_enter Tryz.func51,Tryz.ntmps51
  go_wp2_with (first
   | (go_at_call 85;(with_reducible refine (count_any _ _).mono ?_);rintro e1 w1 ⟨rfl,rfl⟩;first | rw [c1] | rw [c2] | rw [c3])
   | (go_at_call 86;(with_reducible refine (place_any _ _).mono ?_);rintro e1 w1 ⟨rfl,rfl⟩;first | rw [c4] | rw [c5]))
  go_ret
  exact ⟨by rw [vM_no (by simp only;rintro ⟨⟨_,_⟩,_,_,_,_,_,_⟩;first | omega | simp_all)];rfl,HK.out⟩
theorem vN_mk {n lo:Int} (h:lo≤n) (g:n≤1099511627776):vN n lo=true:=by simp [vN,h,g]
set_option maxRecDepth 100000 in
set_option maxHeartbeats 8000000 in
theorem rightN_any (w:World) (m:Nt) (A:Option Addr) (cap:Nat):Calls Tryz.prog 73 #[.agg (m.cells A cap).toArray] w fun e w'=>e=.returned (.bool (vM m))∧Same w w':=by
 obtain ⟨k,call,d,c,e,n,body⟩:=m
 simp only [Nt.cells]
 have HK:=hid ((Keep.refl (fun _=>False) w).alloc (.cells #[.int .i64 k,.int .i64 call,.int .i64 d,.int .i64 c,.int .i64 e,.int .i64 n,.slice A body.length cap] 46))
 by_cases a1:1≤k
 ·by_cases a2:k≤10
  ·by_cases b1:0≤call
   ·by_cases b2:call≤1099511627776
    ·by_cases b3:0≤e
     ·by_cases b4:e≤1099511627776
      ·by_cases b5:0≤n
       ·by_cases b6:n≤1099511627776
        ·by_cases c4:vC d=true
         ·by_cases c5:vC c=true
          ·by_cases a3:(body.length:Int)≤8100
           ·have da1:decide (1≤k)=true:=decide_eq_true a1
            have da2:decide (k≤10)=true:=decide_eq_true a2
            have db1:decide (0≤call)=true:=decide_eq_true b1
            have db2:decide (call≤1099511627776)=true:=decide_eq_true b2
            have db3:decide (0≤e)=true:=decide_eq_true b3
            have db4:decide (e≤1099511627776)=true:=decide_eq_true b4
            have db5:decide (0≤n)=true:=decide_eq_true b5
            have db6:decide (n≤1099511627776)=true:=decide_eq_true b6
            have da3:decide ((body.length:Int)≤8100)=true:=decide_eq_true a3
            have da4:decide (body.length≤8100)=true:=decide_eq_true (by omega)
            go_enter Tryz.func73,Tryz.ntmps73
            go_wp2_with (first
             | (go_at_call 122;(with_reducible refine (desk_any _ _).mono ?_);rintro e1 w1 ⟨rfl,rfl⟩;first | rw [c4] | rw [c5]))
            go_ret
            exact ⟨by rw [vM_iff.2 ⟨⟨by omega,by omega⟩,vN_mk b1 b2,vN_mk b3 b4,vN_mk b5 b6,c4,c5,by simp only;omega⟩];rfl,HK.out⟩
           ·have da1:decide (1≤k)=true:=decide_eq_true a1
            have da2:decide (k≤10)=true:=decide_eq_true a2
            have db1:decide (0≤call)=true:=decide_eq_true b1
            have db2:decide (call≤1099511627776)=true:=decide_eq_true b2
            have db3:decide (0≤e)=true:=decide_eq_true b3
            have db4:decide (e≤1099511627776)=true:=decide_eq_true b4
            have db5:decide (0≤n)=true:=decide_eq_true b5
            have db6:decide (n≤1099511627776)=true:=decide_eq_true b6
            have da3:decide ((body.length:Int)≤8100)=false:=decide_eq_false a3
            have da4:decide (body.length≤8100)=false:=decide_eq_false (by omega)
            go_enter Tryz.func73,Tryz.ntmps73
            go_wp2_with (first
             | (go_at_call 122;(with_reducible refine (desk_any _ _).mono ?_);rintro e1 w1 ⟨rfl,rfl⟩;first | rw [c4] | rw [c5]))
            go_ret
            exact ⟨by rw [vM_no (by simp only;rintro ⟨⟨_,_⟩,q1,q2,q3,_,_,_⟩;have q1:=vN_true q1;have q2:=vN_true q2;have q3:=vN_true q3;first | omega | simp_all)];rfl,HK.out⟩
          ·have da1:decide (1≤k)=true:=decide_eq_true a1
           have da2:decide (k≤10)=true:=decide_eq_true a2
           have db1:decide (0≤call)=true:=decide_eq_true b1
           have db2:decide (call≤1099511627776)=true:=decide_eq_true b2
           have db3:decide (0≤e)=true:=decide_eq_true b3
           have db4:decide (e≤1099511627776)=true:=decide_eq_true b4
           have db5:decide (0≤n)=true:=decide_eq_true b5
           have db6:decide (n≤1099511627776)=true:=decide_eq_true b6
           rw [Bool.not_eq_true] at c5
           go_enter Tryz.func73,Tryz.ntmps73
           go_wp2_with (first
            | (go_at_call 122;(with_reducible refine (desk_any _ _).mono ?_);rintro e1 w1 ⟨rfl,rfl⟩;first | rw [c4] | rw [c5]))
           go_ret
           exact ⟨by rw [vM_no (by simp only;rintro ⟨⟨_,_⟩,q1,q2,q3,_,_,_⟩;have q1:=vN_true q1;have q2:=vN_true q2;have q3:=vN_true q3;first | omega | simp_all)];rfl,HK.out⟩
         ·have da1:decide (1≤k)=true:=decide_eq_true a1
          have da2:decide (k≤10)=true:=decide_eq_true a2
          have db1:decide (0≤call)=true:=decide_eq_true b1
          have db2:decide (call≤1099511627776)=true:=decide_eq_true b2
          have db3:decide (0≤e)=true:=decide_eq_true b3
          have db4:decide (e≤1099511627776)=true:=decide_eq_true b4
          have db5:decide (0≤n)=true:=decide_eq_true b5
          have db6:decide (n≤1099511627776)=true:=decide_eq_true b6
          rw [Bool.not_eq_true] at c4
          go_enter Tryz.func73,Tryz.ntmps73
          go_wp2_with (first
           | (go_at_call 122;(with_reducible refine (desk_any _ _).mono ?_);rintro e1 w1 ⟨rfl,rfl⟩;first | rw [c4] | rw [c5]))
          go_ret
          exact ⟨by rw [vM_no (by simp only;rintro ⟨⟨_,_⟩,q1,q2,q3,_,_,_⟩;have q1:=vN_true q1;have q2:=vN_true q2;have q3:=vN_true q3;first | omega | simp_all)];rfl,HK.out⟩
        ·have da1:decide (1≤k)=true:=decide_eq_true a1
         have da2:decide (k≤10)=true:=decide_eq_true a2
         have db1:decide (0≤call)=true:=decide_eq_true b1
         have db2:decide (call≤1099511627776)=true:=decide_eq_true b2
         have db3:decide (0≤e)=true:=decide_eq_true b3
         have db4:decide (e≤1099511627776)=true:=decide_eq_true b4
         have db5:decide (0≤n)=true:=decide_eq_true b5
         have db6:decide (n≤1099511627776)=false:=decide_eq_false b6
         go_enter Tryz.func73,Tryz.ntmps73
         go_wp2_with (first
          | (go_at_call 122;(with_reducible refine (desk_any _ _).mono ?_);rintro e1 w1 ⟨rfl,rfl⟩;first | rw [c4] | rw [c5]))
         go_ret
         exact ⟨by rw [vM_no (by simp only;rintro ⟨⟨_,_⟩,q1,q2,q3,_,_,_⟩;have q1:=vN_true q1;have q2:=vN_true q2;have q3:=vN_true q3;first | omega | simp_all)];rfl,HK.out⟩
       ·have da1:decide (1≤k)=true:=decide_eq_true a1
        have da2:decide (k≤10)=true:=decide_eq_true a2
        have db1:decide (0≤call)=true:=decide_eq_true b1
        have db2:decide (call≤1099511627776)=true:=decide_eq_true b2
        have db3:decide (0≤e)=true:=decide_eq_true b3
        have db4:decide (e≤1099511627776)=true:=decide_eq_true b4
        have db5:decide (0≤n)=false:=decide_eq_false b5
        go_enter Tryz.func73,Tryz.ntmps73
        go_wp2_with (first
         | (go_at_call 122;(with_reducible refine (desk_any _ _).mono ?_);rintro e1 w1 ⟨rfl,rfl⟩;first | rw [c4] | rw [c5]))
        go_ret
        exact ⟨by rw [vM_no (by simp only;rintro ⟨⟨_,_⟩,q1,q2,q3,_,_,_⟩;have q1:=vN_true q1;have q2:=vN_true q2;have q3:=vN_true q3;first | omega | simp_all)];rfl,HK.out⟩
      ·have da1:decide (1≤k)=true:=decide_eq_true a1
       have da2:decide (k≤10)=true:=decide_eq_true a2
       have db1:decide (0≤call)=true:=decide_eq_true b1
       have db2:decide (call≤1099511627776)=true:=decide_eq_true b2
       have db3:decide (0≤e)=true:=decide_eq_true b3
       have db4:decide (e≤1099511627776)=false:=decide_eq_false b4
       go_enter Tryz.func73,Tryz.ntmps73
       go_wp2_with (first
        | (go_at_call 122;(with_reducible refine (desk_any _ _).mono ?_);rintro e1 w1 ⟨rfl,rfl⟩;first | rw [c4] | rw [c5]))
       go_ret
       exact ⟨by rw [vM_no (by simp only;rintro ⟨⟨_,_⟩,q1,q2,q3,_,_,_⟩;have q1:=vN_true q1;have q2:=vN_true q2;have q3:=vN_true q3;first | omega | simp_all)];rfl,HK.out⟩
     ·have da1:decide (1≤k)=true:=decide_eq_true a1
      have da2:decide (k≤10)=true:=decide_eq_true a2
      have db1:decide (0≤call)=true:=decide_eq_true b1
      have db2:decide (call≤1099511627776)=true:=decide_eq_true b2
      have db3:decide (0≤e)=false:=decide_eq_false b3
      go_enter Tryz.func73,Tryz.ntmps73
      go_wp2_with (first
       | (go_at_call 122;(with_reducible refine (desk_any _ _).mono ?_);rintro e1 w1 ⟨rfl,rfl⟩;first | rw [c4] | rw [c5]))
      go_ret
      exact ⟨by rw [vM_no (by simp only;rintro ⟨⟨_,_⟩,q1,q2,q3,_,_,_⟩;have q1:=vN_true q1;have q2:=vN_true q2;have q3:=vN_true q3;first | omega | simp_all)];rfl,HK.out⟩
    ·have da1:decide (1≤k)=true:=decide_eq_true a1
     have da2:decide (k≤10)=true:=decide_eq_true a2
     have db1:decide (0≤call)=true:=decide_eq_true b1
     have db2:decide (call≤1099511627776)=false:=decide_eq_false b2
     go_enter Tryz.func73,Tryz.ntmps73
     go_wp2_with (first
      | (go_at_call 122;(with_reducible refine (desk_any _ _).mono ?_);rintro e1 w1 ⟨rfl,rfl⟩;first | rw [c4] | rw [c5]))
     go_ret
     exact ⟨by rw [vM_no (by simp only;rintro ⟨⟨_,_⟩,q1,q2,q3,_,_,_⟩;have q1:=vN_true q1;have q2:=vN_true q2;have q3:=vN_true q3;first | omega | simp_all)];rfl,HK.out⟩
   ·have da1:decide (1≤k)=true:=decide_eq_true a1
    have da2:decide (k≤10)=true:=decide_eq_true a2
    have db1:decide (0≤call)=false:=decide_eq_false b1
    go_enter Tryz.func73,Tryz.ntmps73
    go_wp2_with (first
     | (go_at_call 122;(with_reducible refine (desk_any _ _).mono ?_);rintro e1 w1 ⟨rfl,rfl⟩;first | rw [c4] | rw [c5]))
    go_ret
    exact ⟨by rw [vM_no (by simp only;rintro ⟨⟨_,_⟩,q1,q2,q3,_,_,_⟩;have q1:=vN_true q1;have q2:=vN_true q2;have q3:=vN_true q3;first | omega | simp_all)];rfl,HK.out⟩
  ·have da1:decide (1≤k)=true:=decide_eq_true a1
   have da2:decide (k≤10)=false:=decide_eq_false a2
   go_enter Tryz.func73,Tryz.ntmps73
   go_wp2_with (first
    | (go_at_call 122;(with_reducible refine (desk_any _ _).mono ?_);rintro e1 w1 ⟨rfl,rfl⟩;first | rw [c4] | rw [c5]))
   go_ret
   exact ⟨by rw [vM_no (by simp only;rintro ⟨⟨_,_⟩,q1,q2,q3,_,_,_⟩;have q1:=vN_true q1;have q2:=vN_true q2;have q3:=vN_true q3;first | omega | simp_all)];rfl,HK.out⟩
 ·have da1:decide (1≤k)=false:=decide_eq_false a1
  go_enter Tryz.func73,Tryz.ntmps73
  go_wp2_with (first
   | (go_at_call 122;(with_reducible refine (desk_any _ _).mono ?_);rintro e1 w1 ⟨rfl,rfl⟩;first | rw [c4] | rw [c5]))
  go_ret
  exact ⟨by rw [vM_no (by simp only;rintro ⟨⟨_,_⟩,q1,q2,q3,_,_,_⟩;have q1:=vN_true q1;have q2:=vN_true q2;have q3:=vN_true q3;first | omega | simp_all)];rfl,HK.out⟩
theorem vN_iff {n lo:Int}:vN n lo=true↔lo≤n∧n≤1099511627776:=by simp [vN]
theorem vC_iff {n:Int}:vC n=true↔0≤n∧n<9:=by simp [vC]
theorem vP_iff {z:Nat} {v:Int}:vP z v=true↔(1≤z∧z≤40)∧1≤v∧v≤1048576:=by simp [vP];omega
theorem assign_ok {s:CL} {c e t:Int} (h:assignE s c e t=0):(0≤c∧c<9)∧(1≤e∧e≤1099511627776)∧(0≤t∧t≤1099511627776)∧s.ep<e∧¬s.st=5:=by
 unfold assignE at h
 by_cases hv:vC c=true∧vN e 1=true∧vN t 0=true
 ·rw [if_pos hv] at h
  rw [vC_iff,vN_iff,vN_iff] at hv
  by_cases h1:e≤s.ep
  ·rw [if_pos h1] at h;omega
  ·rw [if_neg h1] at h
   by_cases h2:s.st=5
   ·rw [if_pos h2] at h;omega
   ·exact ⟨hv.1,hv.2.1,hv.2.2,by omega,h2⟩
 ·rw [if_neg hv] at h;omega
theorem accept_ok {s:CL} {e:Int} {nm:ByteArray} {v:Int} (h:acceptE s e nm v=0):(e=s.ep∧1≤e∧e≤1099511627776)∧¬s.st=5∧(1≤nm.size∧nm.size≤40)∧1≤v∧v≤1048576:=by
 unfold acceptE at h
 by_cases hv:vN e 1=true∧vP nm.size v=true
 ·rw [if_pos hv] at h
  rw [vN_iff,vP_iff] at hv
  by_cases h1:e=s.ep
  ·rw [if_neg (by simpa using h1)] at h
   by_cases h2:s.st=5
   ·rw [if_pos h2] at h;omega
   ·exact ⟨⟨h1,hv.1⟩,h2,hv.2⟩
  ·rw [if_pos h1] at h;omega
 ·rw [if_neg hv] at h;omega
theorem say_ok {s:CL} {a:Int} (h:sayE s a=0):(0≤a∧a≤15)∧(s.st=2∨s.st=4)∧s.ans.length<200:=by
 unfold sayE at h
 by_cases h1:a<0∨15<a
 ·rw [if_pos h1] at h;omega
 ·rw [if_neg h1] at h
  by_cases h2:(¬s.st=2∧¬s.st=4)∨(s.name.toList == [])=true
  ·rw [if_pos h2] at h;omega
  ·rw [if_neg h2] at h
   by_cases h3:200≤s.ans.length
   ·rw [if_pos h3] at h;omega
   ·refine ⟨by omega,?_,by omega⟩
    by_cases h4:s.st=2
    ·exact .inl h4
    ·by_cases h5:s.st=4
     ·exact .inr h5
     ·exact absurd (.inl ⟨h4,h5⟩) h2
theorem hang_ok {s:CL} {t:Int} (h:hangE s t=0):(0≤t∧t≤1099511627776)∧¬s.st=3∧¬s.st=5:=by
 unfold hangE at h
 by_cases h1:vN t 0=true
 ·rw [if_pos h1] at h
  rw [vN_iff] at h1
  by_cases h2:s.st=3∨s.st=5
  ·rw [if_pos h2] at h;omega
  ·exact ⟨h1,by omega,by omega⟩
 ·rw [if_neg h1] at h;omega
theorem back_ok {s:CL} {e:Int} (h:backE s e=0):e=s.ep∧s.st=3:=by
 unfold backE at h
 by_cases h1:vN e 1=true
 ·rw [if_pos h1] at h
  by_cases h2:e=s.ep
  ·rw [if_neg (by simpa using h2)] at h
   by_cases h3:s.st=3
   ·exact ⟨h2,h3⟩
   ·rw [if_neg h3] at h;omega
  ·rw [if_pos h2] at h;omega
 ·rw [if_neg h1] at h;omega
theorem close_ok {s:CL} {e:Int} (h:closeE s e=0):e=s.ep∧¬s.st=5:=by
 unfold closeE at h
 by_cases h1:vN e 1=true
 ·rw [if_pos h1] at h
  by_cases h2:e=s.ep
  ·rw [if_neg (by simpa using h2)] at h
   by_cases h3:s.st=5
   ·rw [if_pos h3] at h;omega
   ·exact ⟨h2,h3⟩
  ·rw [if_pos h2] at h;omega
 ·rw [if_neg h1] at h;omega
structure Kept (s s':CL):Prop where
 ok:OkL s→OkL s'
 ep:s.ep≤s'.ep
 ans:∃ xs,s'.ans=s.ans++xs
 closed:s.st=5→s'=s
theorem Kept.refl (s:CL):Kept s s:=⟨fun h=>h,Int.le_refl _,⟨[],by simp⟩,fun _=>rfl⟩
theorem assign_kept (s:CL) (c e t:Int):Kept s (assignS s c e t):=by
 unfold assignS
 by_cases h:assignE s c e t=0
 ·rw [if_pos h]
  have hh:=assign_ok h
  refine ⟨fun k=>⟨k.call,?_,?_,⟨by simp only;omega,by simp only;omega⟩,⟨by simp only;omega,by simp only;omega⟩,k.name,k.ver,k.n,k.el⟩,by simp only;omega,⟨[],by simp⟩,fun h5=>absurd h5 hh.2.2.2.2⟩
  ·have:=k.st
   simp only
   split
   ·exact ⟨by omega,by omega⟩
   ·split
    ·exact ⟨by omega,by omega⟩
    ·exact this
  ·have:=k.since
   simp only
   split
   ·exact ⟨by omega,by omega⟩
   ·exact this
 ·rw [if_neg h];exact Kept.refl s
theorem accept_kept (s:CL) (e:Int) (nm:ByteArray) (v:Int):Kept s (acceptS s e nm v):=by
 unfold acceptS
 by_cases h:acceptE s e nm v=0
 ·rw [if_pos h]
  have hh:=accept_ok h
  refine ⟨fun k=>⟨k.call,?_,?_,k.cen,k.ep,hh.2.2.1.2,⟨by simp only;omega,by simp only;omega⟩,k.n,k.el⟩,Int.le_refl _,⟨[],by simp⟩,fun h5=>absurd h5 hh.2.1⟩
  ·have:=k.st
   simp only
   split
   ·exact ⟨by omega,by omega⟩
   ·exact this
  ·have:=k.since
   simp only
   split
   ·exact ⟨by omega,by omega⟩
   ·exact this
 ·rw [if_neg h];exact Kept.refl s
theorem say_kept (s:CL) (a:Int):Kept s (sayS s a):=by
 unfold sayS
 by_cases h:sayE s a=0
 ·rw [if_pos h]
  have hh:=say_ok h
  refine ⟨fun k=>⟨k.call,⟨by simp,by simp⟩,k.since,k.cen,k.ep,k.name,k.ver,by simp;omega,fun x hx=>?_⟩,Int.le_refl _,⟨[a],rfl⟩,fun h5=>by omega⟩
  simp only [List.mem_append,List.mem_singleton] at hx
  rcases hx with hx | rfl
  ·exact k.el x hx
  ·exact ⟨by omega,by omega⟩
 ·rw [if_neg h];exact Kept.refl s
theorem hang_kept (s:CL) (t:Int):Kept s (hangS s t):=by
 unfold hangS
 by_cases h:hangE s t=0
 ·rw [if_pos h]
  have hh:=hang_ok h
  refine ⟨fun k=>⟨k.call,⟨by simp,by simp⟩,?_,k.cen,k.ep,k.name,k.ver,k.n,k.el⟩,Int.le_refl _,⟨[],by simp⟩,fun h5=>absurd h5 hh.2.2⟩
  have:=k.since
  simp only
  split
  ·exact this
  ·exact ⟨by omega,by omega⟩
 ·rw [if_neg h];exact Kept.refl s
theorem back_kept (s:CL) (e:Int):Kept s (backS s e):=by
 unfold backS
 by_cases h:backE s e=0
 ·rw [if_pos h]
  have hh:=back_ok h
  exact ⟨fun k=>⟨k.call,⟨by simp,by simp⟩,⟨by simp,by simp⟩,k.cen,k.ep,k.name,k.ver,k.n,k.el⟩,Int.le_refl _,⟨[],by simp⟩,fun h5=>by omega⟩
 ·rw [if_neg h];exact Kept.refl s
theorem close_kept (s:CL) (e:Int):Kept s (closeS s e):=by
 unfold closeS
 by_cases h:closeE s e=0
 ·rw [if_pos h]
  have hh:=close_ok h
  exact ⟨fun k=>⟨k.call,⟨by simp,by simp⟩,⟨by simp,by simp⟩,k.cen,k.ep,k.name,k.ver,k.n,k.el⟩,Int.le_refl _,⟨[],by simp⟩,fun h5=>absurd h5 hh.2⟩
 ·rw [if_neg h];exact Kept.refl s
structure VL (s:CL):Prop where
 call:1≤s.call∧s.call≤1099511627776
 st:1≤s.st∧s.st≤5
 wait:s.st=1∨s.st=3→0≤s.since∧s.since≤1099511627776
 busy:¬(s.st=1∨s.st=3)→s.since = -1
 own:((0≤s.cen∧s.cen<9)∧(1≤s.ep∧s.ep≤1099511627776))∨(s.cen = -1∧s.ep=0∧(s.st=1∨s.st=3))
 prot:((1≤s.name.size∧s.name.size≤40)∧1≤s.ver∧s.ver≤1048576)∨(s.name=⟨#[]⟩∧s.ver=0∧s.ans=[])
 n:s.ans.length≤200
 el:∀ x∈s.ans,0≤x∧x≤15
theorem assign_vl {s:CL} (h:VL s) (c e t:Int):VL (assignS s c e t):=by
 unfold assignS
 by_cases hE:assignE s c e t=0
 ·rw [if_pos hE]
  obtain ⟨h1,h2,h3,h4,h5⟩:=assign_ok hE
  have hst:=h.st
  refine ⟨h.call,?_,?_,?_,.inl ⟨h1,h2⟩,h.prot,h.n,h.el⟩
  ·simp only;split
   ·omega
   ·split <;> omega
  ·intro hw
   simp only at hw ⊢
   by_cases hb:s.st=2∨s.st=4
   ·rw [if_pos hb];exact h3
   ·rw [if_neg hb]
    have h2':¬s.st=2:=fun e=>hb (.inl e)
    have h4':¬s.st=4:=fun e=>hb (.inr e)
    rw [if_neg h2',if_neg h4'] at hw
    exact h.wait hw
  ·intro hw
   simp only at hw ⊢
   exfalso
   apply hw
   by_cases h2':s.st=2
   ·rw [if_pos h2'];exact .inl rfl
   ·rw [if_neg h2']
    by_cases h4':s.st=4
    ·rw [if_pos h4'];exact .inr rfl
    ·rw [if_neg h4'];omega
 ·rw [if_neg hE];exact h
theorem accept_vl {s:CL} (h:VL s) (e:Int) (nm:ByteArray) (v:Int):VL (acceptS s e nm v):=by
 unfold acceptS
 by_cases hE:acceptE s e nm v=0
 ·rw [if_pos hE]
  obtain ⟨⟨h1,h1a,h1b⟩,h2,h3,h4⟩:=accept_ok hE
  have hst:=h.st
  have hown:(0≤s.cen∧s.cen<9)∧(1≤s.ep∧s.ep≤1099511627776):=by
   rcases h.own with ho | ho
   ·exact ho
   ·omega
  refine ⟨h.call,?_,?_,?_,.inl hown,.inl ⟨h3,h4⟩,h.n,h.el⟩
  ·simp only;split <;> omega
  ·intro hw
   simp only at hw ⊢
   by_cases h11:s.st=1
   ·rw [if_pos h11] at hw;omega
   ·rw [if_neg h11] at hw ⊢;exact h.wait hw
  ·intro hw
   simp only at hw ⊢
   by_cases h11:s.st=1
   ·rw [if_pos h11]
   ·rw [if_neg h11] at hw ⊢;exact h.busy hw
 ·rw [if_neg hE];exact h
theorem toList_nil {b:ByteArray} (h:(b.toList == [])=false):¬b=⟨#[]⟩:=fun e=>by
 subst e
 have h2:((⟨#[]⟩:ByteArray).toList == [])=true:=by kernel_rfl
 rw [h2] at h
 cases h
theorem say_vl {s:CL} (h:VL s) (a:Int):VL (sayS s a):=by
 unfold sayS
 by_cases hE:sayE s a=0
 ·rw [if_pos hE]
  obtain ⟨h1,h2,h3⟩:=say_ok hE
  have hb:s.since = -1:=h.busy (by omega)
  have hnm:(s.name.toList == [])=false:=by
   unfold sayE at hE
   by_cases hq:(s.name.toList == [])=true
   ·rw [if_neg (by omega),if_pos (.inr hq)] at hE;omega
   ·simpa using hq
  have hown:(0≤s.cen∧s.cen<9)∧(1≤s.ep∧s.ep≤1099511627776):=by
   rcases h.own with ho | ho
   ·exact ho
   ·omega
  refine ⟨h.call,by simp,fun hw=>by simp at hw,fun _=>hb,.inl hown,.inl ?_,by simp;omega,fun x hx=>?_⟩
  ·rcases h.prot with hp | hp
   ·exact hp
   ·exact absurd hp.1 (toList_nil hnm)
  ·simp only [List.mem_append,List.mem_singleton] at hx
   rcases hx with hx | rfl
   ·exact h.el x hx
   ·exact h1
 ·rw [if_neg hE];exact h
theorem hang_vl {s:CL} (h:VL s) (t:Int):VL (hangS s t):=by
 unfold hangS
 by_cases hE:hangE s t=0
 ·rw [if_pos hE]
  obtain ⟨h1,h2,h3⟩:=hang_ok hE
  refine ⟨h.call,by simp,fun _=>?_,fun hw=>by simp at hw,?_,h.prot,h.n,h.el⟩
  ·simp only
   by_cases h11:s.st=1
   ·rw [if_pos h11];exact h.wait (.inl h11)
   ·rw [if_neg h11];exact h1
  ·rcases h.own with ho | ho
   ·exact .inl ho
   ·exact .inr ⟨ho.1,ho.2.1,.inr rfl⟩
 ·rw [if_neg hE];exact h
theorem back_own {s:CL} (h:VL s) {e:Int} (h1:vN e 1=true) (h2:e=s.ep):(0≤s.cen∧s.cen<9)∧(1≤s.ep∧s.ep≤1099511627776):=by
 rw [vN_iff] at h1
 rcases h.own with ho | ho
 ·exact ho
 ·omega
theorem back_vl {s:CL} (h:VL s) (e:Int):VL (backS s e):=by
 unfold backS
 by_cases hE:backE s e=0
 ·rw [if_pos hE]
  have hb:=back_ok hE
  have hv:vN e 1=true:=by
   unfold backE at hE
   by_cases hq:vN e 1=true
   ·exact hq
   ·rw [if_neg hq] at hE;omega
  have ho:=back_own h hv hb.1
  exact ⟨h.call,by simp,fun hw=>by simp at hw,fun _=>rfl,.inl ho,h.prot,h.n,h.el⟩
 ·rw [if_neg hE];exact h
theorem close_vl {s:CL} (h:VL s) (e:Int):VL (closeS s e):=by
 unfold closeS
 by_cases hE:closeE s e=0
 ·rw [if_pos hE]
  have hb:=close_ok hE
  have hv:vN e 1=true:=by
   unfold closeE at hE
   by_cases hq:vN e 1=true
   ·exact hq
   ·rw [if_neg hq] at hE;omega
  have ho:=back_own h hv hb.1
  exact ⟨h.call,by simp,fun hw=>by simp at hw,fun _=>rfl,.inl ho,h.prot,h.n,h.el⟩
 ·rw [if_neg hE];exact h
theorem VL.ok {s:CL} (h:VL s):OkL s:=by
 obtain ⟨h1,h2,h3,h4,h5,h6,h7,h8⟩:=h
 have hs : -1≤s.since∧s.since≤1099511627776:=by
  by_cases hw:s.st=1∨s.st=3
  ·have:=h3 hw;omega
  ·have:=h4 hw;omega
 have hn:s.name.size≤40∧0≤s.ver∧s.ver≤1048576:=by
  rcases h6 with h6 | h6
  ·omega
  ·rw [h6.1,h6.2.1];exact ⟨by decide,by decide,by decide⟩
 refine ⟨⟨by omega,by omega⟩,⟨by omega,by omega⟩,⟨by omega,by omega⟩,⟨by omega,by omega⟩,⟨by omega,by omega⟩,hn.1,⟨by omega,by omega⟩,h7,fun x hx=>?_⟩
 have:=h8 x hx
 exact ⟨by omega,by omega⟩
def NB (w:World) (bs:List UInt8) (e:Ending) (w':World):Prop:=∃ A c,e=.returned (.slice A bs.length c)∧Sl w' (· < w.heap.size) 1 A bs.length (bcells bs)∧Same w w'
theorem encM_len {m:Nt} (h:vM m=true):(encI m.k).length+(encI m.call).length+(encI m.d).length+(encI m.c).length+(encI m.e).length+(encI m.n).length+(encD m.body).length≤8200:=by
 obtain ⟨k1,k2,k3,k4,k5,k6⟩:=vM_ok h
 have hb:=(vM_iff.1 h).2.2.2.2.2.2
 have:=encI_le k1
 have:=encI_le k2
 have:=encI_le k3
 have:=encI_le k4
 have:=encI_le k5
 have:=encI_le k6
 have:=encD_le' (b:=m.body) (by omega)
 omega
set_option maxHeartbeats 8000000 in
set_option maxRecDepth 100000 in
theorem encM_any (w:World) (m:Nt) (A:Option Addr) (cap:Nat) (hS:Sl w (fun _=>False) 1 A m.body.length (bcells m.body)):Calls Tryz.prog 79 #[.agg (m.cells A cap).toArray] w (NB w (encM m)):=by
 have hk0:=(Keep.refl (fun _=>False) w).alloc (.cells (m.cells A cap).toArray 66)
 have HK0:=hid hk0
 have HB0:=hid (Blk.made w 66 (m.cells A cap).toArray)
 have HVM:=hid (fun w=>validM_any w m A cap)
 have HS:=hid hS
 by_cases hv:vM m=true
 ·have hlen:=encM_len hv
  have hbl:=(vM_iff.1 hv).2.2.2.2.2.2
  have HEN:=hid (show encM m=([]:List UInt8)++encI m.k++encI m.call++encI m.d++encI m.c++encI m.e++encI m.n++encD m.body by rw [encM,if_pos hv];simp)
  obtain ⟨k1,k2,k3,k4,k5,k6⟩:=vM_ok hv
  rw [hv] at HVM
  clear hv hS hk0
  obtain ⟨k,call,d,c,e,n,body⟩:=m
  simp only [Nt.cells] at k1 k2 k3 k4 k5 k6 hlen HB0 HK0 HVM HS ⊢
  simp only at hbl HEN
  have HLN:=hid hlen
  clear hlen
  go_enter Tryz.func79,Tryz.ntmps79
  go_wp2_with (go_at_call 51;(with_reducible refine (HVM.out _).mono ?_);rintro e1 w1 ⟨rfl,hk1⟩;have HK1:=hid (HK0.out.then hk1);have HB1:=hid (HB0.out.keep hk1 (fun f=>f));have HS0:Hid (MS w1 (w1.alloc (.cells #[.slice none 0 0] 157)) w1.heap.size none none 0 []):=hid ⟨⟨Blk.made w1 157 #[.slice none 0 0],Own.nil _ 0 5 1,rfl,fun g e=>by cases e⟩,(Keep.refl _ w1).alloc _,fun g e=>by (cases e),Nat.le_refl _⟩;have HC0:Hid (∀ W,Same w1 W→W.cell? ⟨w.heap.size,0,none⟩=some (.int .i64 k)∧W.cell? ⟨w.heap.size,1,none⟩=some (.int .i64 call)∧W.cell? ⟨w.heap.size,2,none⟩=some (.int .i64 d)∧W.cell? ⟨w.heap.size,3,none⟩=some (.int .i64 c)∧W.cell? ⟨w.heap.size,4,none⟩=some (.int .i64 e)∧W.cell? ⟨w.heap.size,5,none⟩=some (.int .i64 n)∧W.cell? ⟨w.heap.size,6,none⟩=some (.slice A body.length cap)):=hid (fun W hk=>by have hb:=HB1.out.keep hk (fun f=>f);exact ⟨hb.at_ 0,hb.at_ 1,hb.at_ 2,hb.at_ 3,hb.at_ 4,hb.at_ 5,hb.at_ 6⟩);obtain ⟨z0,_,_,_,_,_,_⟩:=HC0.out _ HS0.out.same;have HC:=hid (wInt_any _ w1.heap.size none none 0 [] HS0.out.wr (by simp) k k1.1 k1.2);clear hk1)
  (with_reducible refine HC.out.mono ?_)
  rintro e1 w2 ⟨r2,A2,c2',rfl,hW2,hK2,hg2⟩
  have HS1:=hid (HS0.out.next hW2 hK2 hg2)
  obtain ⟨_,z1,_,_,_,_,_⟩:=HC0.out _ HS1.out.same
  have HCn:=hid (wInt_any _ w1.heap.size r2 A2 c2' _ hW2 (by have:=HLN.out;simp only [List.length_append,List.length_nil];omega) call k2.1 k2.2)
  clear HC
  have HC:=HCn
  clear HCn hW2 hK2 hg2 HS0
  go_wp2_with fail
  (with_reducible refine HC.out.mono ?_)
  rintro e1 w3 ⟨r3,A3,c3',rfl,hW3,hK3,hg3⟩
  have HS2:=hid (HS1.out.next hW3 hK3 hg3)
  obtain ⟨_,_,z2,_,_,_,_⟩:=HC0.out _ HS2.out.same
  have HCn:=hid (wInt_any _ w1.heap.size r3 A3 c3' _ hW3 (by have:=HLN.out;simp only [List.length_append,List.length_nil];omega) d k3.1 k3.2)
  clear HC
  have HC:=HCn
  clear HCn hW3 hK3 hg3 HS1
  go_wp2_with fail
  (with_reducible refine HC.out.mono ?_)
  rintro e1 w4 ⟨r4,A4,c4',rfl,hW4,hK4,hg4⟩
  have HS3:=hid (HS2.out.next hW4 hK4 hg4)
  obtain ⟨_,_,_,z3,_,_,_⟩:=HC0.out _ HS3.out.same
  have HCn:=hid (wInt_any _ w1.heap.size r4 A4 c4' _ hW4 (by have:=HLN.out;simp only [List.length_append,List.length_nil];omega) c k4.1 k4.2)
  clear HC
  have HC:=HCn
  clear HCn hW4 hK4 hg4 HS2
  go_wp2_with fail
  (with_reducible refine HC.out.mono ?_)
  rintro e1 w5 ⟨r5,A5,c5',rfl,hW5,hK5,hg5⟩
  have HS4:=hid (HS3.out.next hW5 hK5 hg5)
  obtain ⟨_,_,_,_,z4,_,_⟩:=HC0.out _ HS4.out.same
  have HCn:=hid (wInt_any _ w1.heap.size r5 A5 c5' _ hW5 (by have:=HLN.out;simp only [List.length_append,List.length_nil];omega) e k5.1 k5.2)
  clear HC
  have HC:=HCn
  clear HCn hW5 hK5 hg5 HS3
  go_wp2_with fail
  (with_reducible refine HC.out.mono ?_)
  rintro e1 w6 ⟨r6,A6,c6',rfl,hW6,hK6,hg6⟩
  have HS5:=hid (HS4.out.next hW6 hK6 hg6)
  obtain ⟨_,_,_,_,_,z5,_⟩:=HC0.out _ HS5.out.same
  have HCn:=hid (wInt_any _ w1.heap.size r6 A6 c6' _ hW6 (by have:=HLN.out;simp only [List.length_append,List.length_nil];omega) n k6.1 k6.2)
  clear HC
  have HC:=HCn
  clear HCn hW6 hK6 hg6 HS4
  go_wp2_with fail
  (with_reducible refine HC.out.mono ?_)
  rintro e1 w7 ⟨r7,A7,c7',rfl,hW7,hK7,hg7⟩
  have HS6:=hid (HS5.out.next hW7 hK7 hg7)
  obtain ⟨_,_,_,_,_,_,z6⟩:=HC0.out _ HS6.out.same
  have HCn:=hid (wBytes_any _ w1.heap.size r7 A7 c7' _ hW7 (by have:=HLN.out;simp only [List.length_append,List.length_nil];omega) A body.length cap body (((HS.out.old.same HK1.out).same HS6.out.same).wide (fun i _ hs=>by have hq:=HK1.out.size;rcases hs with rfl | hs;exact hq;exact Nat.le_trans hq (HS6.out.r0 i hs.symm))) (by omega))
  clear HC
  have HC:=HCn
  clear HCn hW7 hK7 hg7 HS5
  go_wp2_with fail
  (with_reducible refine HC.out.mono ?_)
  rintro e1 w8 ⟨r8,A8,c8',rfl,hW8,hK8,hg8⟩
  have HS7:=hid (HS6.out.next hW8 hK8 hg8)
  have HCn:=hid (encoded_any _ w1.heap.size r8 A8 c8' _ hW8 (by have:=HLN.out;simp only [List.length_append,List.length_nil];omega))
  clear HC
  have HC:=HCn
  clear HCn hW8 hK8 hg8 HS6
  rw [←HEN.out] at HC
  go_wp2_with fail
  (with_reducible refine HC.out.mono ?_)
  rintro e1 w9 ⟨rfl,hB9,hK9⟩
  have hz:=HS7.out.same.size
  have hz1:=HK1.out.size
  have HK9:=hid (HK1.out.then (HS7.out.same.then hK9))
  have HB9:=hid hB9
  clear hB9 hK9
  go_wp2
  go_ret
  have hsl:=Sl.of_blk (size:=1) (n:=(encM ⟨k,call,d,c,e,n,body⟩).length) (Av:=(· < w.heap.size)) HB9.out (by simp [bcells_len]) (by omega)
  exact ⟨_,_,rfl,by simpa using hsl,HK9.out⟩
 ·rw [Bool.not_eq_true] at hv
  have HEN:=hid (show encM m=[] by rw [encM,if_neg (by simp [hv])])
  rw [hv] at HVM
  obtain ⟨k,call,d,c,e,n,body⟩:=m
  simp only [Nt.cells] at HB0 HK0 HVM HS ⊢
  clear hv hk0 hS
  go_enter Tryz.func79,Tryz.ntmps79
  go_wp2_with (go_at_call 51;(with_reducible refine (HVM.out _).mono ?_);rintro e1 w1 ⟨rfl,hk1⟩;have HK1:=hid (HK0.out.then hk1);clear hk1)
  go_ret
  exact ⟨none,0,by rw [HEN.out];rfl,by rw [HEN.out];exact Sl.nil _ _ _ _,HK1.out⟩
end Go.Proofs.YtbjddfiledoaoaaGreat
